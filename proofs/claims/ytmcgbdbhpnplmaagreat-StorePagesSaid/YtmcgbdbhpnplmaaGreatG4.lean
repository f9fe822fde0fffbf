/- Texts laid together: words, plain laws and walks of the program's functions (G4). -/
import Derived.Test.YtmcgbdbhpnplmaaGreatG1
import Derived.Deep.OwnRows
import Derived.Test.YtmcgbdbhpnplmaaGreatG2
import Derived.Deep.Cut
import Derived.Deep.CutRange
/- Walks: a block's record read, the package's. -/
namespace Go.Proofs.YtmcgbdbhpnplmaaGreat
open Go Go.RowKit
theorem own_zero (w0 w : World) : OwnRec w0 w (.agg #[.int .i64 0, .int .i64 0, .int .i64 0, .slice none 0 0]) rZero := ⟨_, _, rfl, own_nil _ _ _ _⟩
theorem any_true (l : List UInt8) (s t j : Nat) (hj : j < t) (hl : s + j < l.length) (h : l.getD (s + j) 0 ≠ 0) : ((l.drop s).take t).any (fun c => c != 0) = true := by
 rw [List.any_eq_true]
 refine ⟨l.getD (s + j) 0, ?_, by simpa using h⟩
 rw [List.mem_take_iff_getElem]
 refine ⟨j, by rw [List.length_drop]; omega, ?_⟩
 rw [List.getElem_drop, List.getD_eq_getElem?_getD, List.getElem?_eq_getElem hl]
 rfl
theorem any_succ (l : List UInt8) (s j : Nat) (h : ((l.drop s).take j).any (fun c => c != 0) = false) (hj : l.getD (s + j) 0 = 0) : ((l.drop s).take (j + 1)).any (fun c => c != 0) = false := by
 rcases Nat.lt_or_ge (s + j) l.length with hl | hl
 ·rw [List.take_succ_eq_append_getElem (by rw [List.length_drop]; omega), List.any_append, h, Bool.false_or]
  rw [List.getD_eq_getElem?_getD, List.getElem?_eq_getElem hl] at hj
  simpa using hj
 ·rw [List.take_of_length_le (by rw [List.length_drop]; omega)] at h
  rw [List.take_of_length_le (by rw [List.length_drop]; omega)]
  exact h
set_option maxRecDepth 100000 in
set_option maxHeartbeats 2000000 in
theorem read_w {A : Option Addr} {n c B : Nat} {l : List UInt8} {k : Int} (w : World) (h : By w B A n c l) (hB : B ≤ w.heap.size) :
  Calls Tryz.prog 132 #[.slice A n c, .int .i64 k] w fun e w' => ∃ v q, e = .returned (.tuple #[v, .int .i64 q]) ∧ q = (rRead l k).2 ∧ OwnRec w w' v (rRead l k).1 ∧ Ext w w' := by
 have hl := h.len
 have hc := Sl.cap h
 have hm := Sl.max h
 unfold maxLen at hm
 by_cases h16 : n = 16
 ·subst h16
  cases hs : sSealed l with
  | false =>
   have Hr := Lib.hid (show rRead l k = (rZero, 7) by unfold rRead; rw [if_neg (by omega), if_pos hs])
   go_enter Tryz.func132, Tryz.ntmps132
   go_wp2_with fail
   refine (sealed_q _ _ _ _ l _ (Sl.below h ((ext_alloc _ _).mono hB))).mono ?_
   rintro e w1 ⟨rfl, m, rfl⟩
   rw [hs]
   go_wp2
   ((try simp only [Exit.inBlock, Exit.then]); refine bodyPost_ret (v := ?_) ?resultOf rfl ?_; case resultOf => (rw [results_cell_tmp rfl]; go_simp; rfl))
   rw [Hr.out]
   refine ⟨_, _, rfl, rfl, own_zero _ _, ?_⟩
   (repeat (with_reducible (first | assumption | exact Below.refl _ _ | refine Below.setCell ?_ (by simp <;> omega) _ | refine Below.alloc ?_ (by simp <;> omega) _ | refine Below.drew ?_ | refine below_drewN ?_ _)))
  | true =>
   have Hs := Lib.hid hs
   go_enter Tryz.func132, Tryz.ntmps132
   go_wp2_with fail
   refine (sealed_w _ _ _ _ l _ (Sl.below h ((ext_alloc _ _).mono hB))).mono ?_
   rintro e V ⟨rfl, heV⟩
   have he : Ext w V := ext_trans (ext_alloc _ _) heV
   have bR : Box V w.heap.size 51 _ := (Box.new w _ _ rfl).ext heV
   have hzV := heV.size
   rw [size_alloc] at hzV
   rw [hs]
   have hb : By V B A 16 c l := Sl.below h (he.mono hB)
   obtain ⟨b, o, x0, rfl, hbB, c0, x00, x01, X0⟩ := hb.byte (k := 0) (by omega)
   obtain ⟨_, _, x1, e', _, c1, x10, x11, X1⟩ := hb.byte (k := 1) (by omega)
   cases e'
   obtain ⟨_, _, x2, e', _, c2, x20, x21, X2⟩ := hb.byte (k := 2) (by omega)
   cases e'
   obtain ⟨_, _, x3, e', _, c3, x30, x31, X3⟩ := hb.byte (k := 3) (by omega)
   cases e'
   obtain ⟨_, _, x4, e', _, c4, x40, x41, X4⟩ := hb.byte (k := 4) (by omega)
   cases e'
   obtain ⟨_, _, x5, e', _, c5, x50, x51, X5⟩ := hb.byte (k := 5) (by omega)
   cases e'
   obtain ⟨u, rfl⟩ := Int.eq_ofNat_of_zero_le x50
   have p0 : IntKind.i64.wrap x0 = x0 := IntWalk.i64_in _ (by omega)
   have p1 : IntKind.i64.wrap x1 = x1 := IntWalk.i64_in _ (by omega)
   have p2 : IntKind.i64.wrap x2 = x2 := IntWalk.i64_in _ (by omega)
   have p5 : IntKind.i64.wrap (u : Int) = (u : Int) := IntWalk.i64_in _ (by omega)
   have r0 := bR.cell 0 rfl
   have r1 := bR.cell 1 rfl
   have r2 := bR.cell 2 rfl
   have r3 := bR.cell 3 rfl
   have z0 := bR.free
   have Hl := Lib.hid hl
   clear heV hl hs
   by_cases hk : x1 = k
   ·have q1 : (x1 != k) = false := by simpa using hk
    by_cases h8 : u ≤ 8
    ·have q2 : decide ((8 : Int) < (u : Int)) = false := by simp; omega
     have q3 : IntKind.i64.wrap (6 + (u : Int)) = 6 + (u : Int) := IntWalk.i64_in _ (by omega)
     have q4 : decide ((6 : Int) + (u : Int) ≤ 14) = true := by simp; omega
     have q5 : (0 : Int) ≤ 6 + (u : Int) := by omega
     have q6 : (6 : Int) + (u : Int) ≤ 14 := by omega
     have q7 : (14 : Int) ≤ (c : Int) := by omega
     go_wp2_with fail
     go_loopw [44] (fun i wr => ∃ j : Nat, j ≤ 8 - u ∧ i = .int .i64 j ∧ Hid (((l.drop (6 + u)).take j).any (fun c => c != 0) = false) ∧ V = wr) (fun i _ => 8 - u - (intOf i).toNat)
     case atStart => exact ⟨0, Nat.zero_le _, rfl, (show _ = _ from by simp), rfl⟩
     case round =>
      obtain ⟨j, hj, rfl, ha, rfl⟩ := hrel
      have i0 : (0 : Int) ≤ (j : Int) := by omega
      by_cases hlt : j < 8 - u
      ·have i1 : (j : Int) < ((14 - (6 + u) : Nat) : Int) := by omega
       have i2 : j < 14 - (6 + u) := by omega
       obtain ⟨_, _, y, e', _, cy, y0, y1, Y⟩ := hb.byte (k := 6 + u + j) (by omega)
       cases e'
       rw [← Nat.add_assoc] at cy
       by_cases hy : y = 0
       ·subst hy
        have hs := Lib.hid (any_succ l (6 + u) j ha.out (by apply UInt8.toNat_inj.1; have := Y.out; simp only [UInt8.toNat_zero]; omega))
        go_wp2_with fail
        go_roundw
        case rel => exact ⟨j + 1, by omega, by go_num, hs, trivial⟩
        case measure => simp [intOf]; omega
       ·have qy : (y != 0) = true := by simpa using hy
        have Hr := Lib.hid (show rRead l k = (rZero, 2) by
         have e5 : (l.getD 5 0).toNat = u := by have := X5.out; omega
         unfold rRead
         rw [if_neg (by have := Hl.out; omega), if_neg (by rw [Hs.out]; simp), if_neg (by rw [← X1.out, hk]; simp), e5, if_neg (by omega), any_true l (6 + u) (8 - u) j hlt (by have := Hl.out; omega) (by intro e0; apply hy; rw [Y.out, e0]; rfl)]
         rfl)
        go_wp2_with fail
        ((try simp only [Exit.inBlock, Exit.then]); refine bodyPost_ret (v := ?_) ?resultOf rfl ?_; case resultOf => (rw [results_cell_tmp rfl]; go_simp; rfl))
        rw [Hr.out]
        refine ⟨_, _, rfl, rfl, own_zero _ _, ?_⟩
        (repeat (with_reducible (first | assumption | exact Below.refl _ _ | refine Below.setCell ?_ (by simp <;> omega) _ | refine Below.alloc ?_ (by simp <;> omega) _ | refine Below.drew ?_ | refine below_drewN ?_ _)))
      ·have hju : j = 8 - u := by omega
       subst hju
       have i1 : ((8 - u : Nat) : Int) = ((14 - (6 + u) : Nat) : Int) := by omega
       have hcl : By V B (some ⟨b, o + 6, none⟩) u (c - 6) ((l.drop 6).take u) := by
        have := (hb.take (k := 6 + u) (by omega)).cut (k := 6) (by omega)
        rw [if_neg (by omega), List.drop_take] at this
        simpa [Addr.add] using this
       go_wp2_with fail
       have d7 : decide ((6 : Int) + (u : Int) ≤ (c : Int)) = true := by simp; omega
       have d8 : (6 : Int) + (u : Int) ≤ (c : Int) := by omega
       have d9 : max (6 + (u : Int)) 0 = 6 + (u : Int) := by omega
       have d10 : (6 : Int) ≤ 6 + (u : Int) := by omega
       have d11 : ((6 : Int) + (u : Int)).toNat = 6 + u := by omega
       have d12 : ¬ c = 6 := by omega
       rw [Nat.add_zero] at c0
       refine wp_region_ext 23 [0, 1, 2, 3, 4, 5, 6, 7, 8, 9, 10, 11, 12, 13, 15, 16, 17, 18, 20] true rfl (by kernel_rfl) (by kernel_rfl) ?_
       have hd : Below V.heap.size V V.drew := (Below.refl _ _).drew
       apply mixF 0 (by kernel_rfl) (by rfl) (by rfl)
       ·(intro w' hx; go_simp <;> with_reducible rfl)
       simp only [pA, pB, pC, pD]
       apply mixF 1 (by kernel_rfl) (by rfl) (by rfl)
       ·(intro w' hx; go_simp <;> with_reducible rfl)
       simp only [pA, pB, pC, pD]
       apply mixF 2 (by kernel_rfl) (by rfl) (by rfl)
       ·(intro w' hx; have q := (hx.cell (p := ⟨b, o, none⟩) (show b < V.heap.size by omega)).trans c0; go_simp <;> with_reducible rfl)
       simp only [pA, pB, pC, pD]
       apply mixF 3 (by kernel_rfl) (by rfl) (by rfl)
       ·(intro w' hx; go_simp <;> with_reducible rfl)
       simp only [pA, pB, pC, pD]
       apply mixF 4 (by kernel_rfl) (by rfl) (by rfl)
       ·(intro w' hx; go_simp <;> with_reducible rfl)
       simp only [pA, pB, pC, pD]
       apply mixF 5 (by kernel_rfl) (by rfl) (by rfl)
       ·(intro w' hx; go_simp <;> with_reducible rfl)
       simp only [pA, pB, pC, pD]
       apply mixF 6 (by kernel_rfl) (by rfl) (by rfl)
       ·(intro w' hx; have q := (hx.cell (p := ⟨b, o + 2, none⟩) (show b < V.heap.size by omega)).trans c2; go_simp <;> with_reducible rfl)
       simp only [pA, pB, pC, pD]
       apply mixF 7 (by kernel_rfl) (by rfl) (by rfl)
       ·(intro w' hx; go_simp <;> with_reducible rfl)
       simp only [pA, pB, pC, pD]
       apply mixF 8 (by kernel_rfl) (by rfl) (by rfl)
       ·(intro w' hx; go_simp <;> with_reducible rfl)
       simp only [pA, pB, pC, pD]
       apply mixF 9 (by kernel_rfl) (by rfl) (by rfl)
       ·(intro w' hx; go_simp <;> with_reducible rfl)
       simp only [pA, pB, pC, pD]
       apply mixF 10 (by kernel_rfl) (by rfl) (by rfl)
       ·(intro w' hx; have q := (hx.cell (p := ⟨b, o + 3, none⟩) (show b < V.heap.size by omega)).trans c3; go_simp <;> with_reducible rfl)
       simp only [pA, pB, pC, pD]
       apply mixF 11 (by kernel_rfl) (by rfl) (by rfl)
       ·(intro w' hx; go_simp <;> with_reducible rfl)
       simp only [pA, pB, pC, pD]
       apply mixF 12 (by kernel_rfl) (by rfl) (by rfl)
       ·(intro w' hx; go_simp <;> with_reducible rfl)
       simp only [pA, pB, pC, pD]
       apply mixF 13 (by kernel_rfl) (by rfl) (by rfl)
       ·(intro w' hx; have q := (hx.cell (p := ⟨b, o + 4, none⟩) (show b < V.heap.size by omega)).trans c4; go_simp <;> with_reducible rfl)
       simp only [pA, pB, pC, pD]
       apply mixF 15 (by kernel_rfl) (by rfl) (by rfl)
       ·(intro w' hx; go_simp <;> with_reducible rfl)
       simp only [pA, pB, pC, pD]
       apply mixF 16 (by kernel_rfl) (by rfl) (by rfl)
       ·(intro w' hx; go_simp <;> with_reducible rfl)
       simp only [pA, pB, pC, pD]
       apply mixF 17 (by kernel_rfl) (by rfl) (by rfl)
       ·(intro w' hx; go_simp <;> with_reducible rfl)
       simp only [pA, pB, pC, pD]
       apply mixF 18 (by kernel_rfl) (by rfl) (by rfl)
       ·(intro w' hx; go_simp <;> with_reducible rfl)
       simp only [pA, pB, pC, pD]
       refine mixS2 14 21 (by kernel_rfl) (by kernel_rfl) (by rfl) (by rfl) (by rfl) (by rfl) (fun K hK => ?_) (fun K hK => ?_)
       ·skip
        go_wp2_with (go_at_call 148; refine (number_w x3 x4 _ ⟨x30, x31⟩ ⟨x40, x41⟩).mono ?_; rintro e w1 ⟨rfl, rfl⟩)
        refine hK.out _ _ (Below.refl _ _) ?_
        clear hK K
        try simp only [pA, pB, pC, pD]
        refine mixS2 19 21 (by kernel_rfl) (by kernel_rfl) (by rfl) (by rfl) (by rfl) (by rfl) (fun K hK => ?_) (fun K hK => ?_)
        ·skip
         go_wp2_with (go_at_call 101; refine (clone_w _ (Sl.below hcl (hd.mono (by omega))) (by have := hd.size; omega) (by rw [blim_def]; omega)).mono ?_; rintro e w1 ⟨v1, rfl, hown, he1⟩; obtain ⟨A1, c1, rfl, hs1⟩ := own_shape hown)
         refine hK.out _ _ (he1) ?_
         clear hK K
         try simp only [pA, pB, pC, pD]
         have hownB := hown
         have hown := own_more (base' := V.heap.size) hown hd.size
         have hd := ext_trans hd he1
         apply mixF 20 (by kernel_rfl) (by rfl) (by rfl)
         ·(intro w' hx; go_simp <;> with_reducible rfl)
         simp only [pA, pB, pC, pD]
         refine mixS 21 (by kernel_rfl) (by kernel_rfl) (by rfl) (by rfl) (fun K hK => ?_)
         have hd1 := hd
         go_wp2
         refine hK.out _ _ (ext_alloc _ _) ?_
         clear hK K
         try simp only [pA, pB, pC, pD]
         obtain ⟨w5, hw5⟩ : ∃ w5, w5 = w1.alloc (.cells #[.int .i64 0, .int .i64 0, .int .i64 0, .slice none 0 0] 51) := ⟨_, rfl⟩
         first | rw [← hw5] | rw [show (V.alloc (.cells #[.int .i64 0, .int .i64 0, .int .i64 0, .slice none 0 0] 51)).drew = w5 by rw [hw5]; rfl]
         have he5 : Ext w1 w5 := by rw [hw5]; exact ext_alloc _ _
         have b9 : Box w5 w1.heap.size 51 #[.int .i64 0, .int .i64 0, .int .i64 0, .slice none 0 0] := by rw [hw5]; exact Box.new _ _ _ rfl
         have hd := ext_trans hd he5
         have hlt9 := b9.lt
         clear hw5
         have n0 := b9.cell 0 rfl
         have n1 := b9.cell 1 rfl
         have n2 := b9.cell 2 rfl
         have n3 := b9.cell 3 rfl
         have zn := b9.free
         refine mixLast 22 (by kernel_rfl) (by kernel_rfl) (by kernel_rfl) (by rfl) (by rfl) (fun K hK => ?_)
         have hK' := Lib.hid hK
         clear hK
         go_wp2
         refine hK'.out _ _ ?_
         clear hK' K n0 n1 n2 n3 zn
         refine NoPanic.normal ?_
         have hzG : V.heap.size ≤ w1.heap.size := by first | exact hd1.size | exact Nat.le_refl _
         obtain ⟨w6, hw6⟩ : ∃ w6, w6 = (((w5.setCell ⟨w1.heap.size, 0, none⟩ (.int .i64 x0)).setCell ⟨w1.heap.size, 1, none⟩ (.int .i64 x2)).setCell ⟨w1.heap.size, 2, none⟩ (.int .i64 (x3 * 256 + x4))).setCell ⟨w1.heap.size, 3, none⟩ (.slice A1 u c1) := ⟨_, rfl⟩
         rw [← hw6]
         have b9 : Box w6 w1.heap.size 51 #[.int .i64 x0, .int .i64 x2, .int .i64 (x3 * 256 + x4), .slice A1 u c1] := by
          rw [hw6]
          exact (((b9.set 0 _).set 1 _).set 2 _).set 3 _
         have hd6 : Below V.heap.size V w6 := by rw [hw6]; (repeat (with_reducible (first | assumption | exact Below.refl _ _ | refine Below.setCell ?_ (by simp <;> omega) _ | refine Below.alloc ?_ (by simp <;> omega) _ | refine Below.drew ?_ | refine below_drewN ?_ _)))
         have he6 : Ext w1 w6 := by rw [hw6]; have he5 : Below w1.heap.size w1 w5 := he5; (repeat (with_reducible (first | assumption | exact Below.refl _ _ | refine Below.setCell ?_ (by simp <;> omega) _ | refine Below.alloc ?_ (by simp <;> omega) _ | refine Below.drew ?_ | refine below_drewN ?_ _)))
         have own6 := own_ext hown he6
         clear hw6 hd
         have bR6 := bR.below hd6 (by omega)
         clear bR r0 r1 r2 r3 z0
         have n0 := b9.cell 0 rfl
         have n1 := b9.cell 1 rfl
         have n2 := b9.cell 2 rfl
         have n3 := b9.cell 3 rfl
         go_wp2_with fail
         refine (wrong_w (r := ⟨x0, x2, x3 * 256 + x4, (l.drop 6).take u⟩) _ (Sl.of_own own6)).mono ?_
         rintro e w7 ⟨rfl, he7⟩
         obtain ⟨z, hz⟩ : ∃ z, z = rWrong ⟨x0, x2, x3 * 256 + x4, (l.drop 6).take u⟩ := ⟨_, rfl⟩
         rw [← hz]
         have hT : rTold l = ⟨x0, x2, x3 * 256 + x4, (l.drop 6).take u⟩ := by
          unfold rTold sNum
          rw [← X0.out, ← X2.out, ← X3.out, ← X4.out]
          have e5 : (l.getD 5 0).toNat = u := by have := X5.out; omega
          rw [e5]
         have hR : rRead l k = if rWrong (rTold l) ≠ 0 then (rZero, rWrong (rTold l)) else (rTold l, 0) := by
          have e5 : (l.getD 5 0).toNat = u := by have := X5.out; omega
          unfold rRead
          rw [if_neg (by have := Hl.out; omega), if_neg (by rw [Hs.out]; simp), if_neg (by rw [← X1.out, hk]; simp), e5, if_neg (by omega), ha.out]
          rfl
         rw [hT, ← hz] at hR
         have b9 := b9.ext he7
         have bR6 := bR6.ext he7
         have own7 := own_ext own6 he7
         have hd7 : Below w.heap.size w w7 := he.trans ((hd6.mono (by omega)).trans (he7.mono (by have := hd6.size; omega)))
         have n0 := b9.cell 0 rfl
         have n1 := b9.cell 1 rfl
         have n2 := b9.cell 2 rfl
         have n3 := b9.cell 3 rfl
         have r0 := bR6.cell 0 rfl
         have r1 := bR6.cell 1 rfl
         have r2 := bR6.cell 2 rfl
         have r3 := bR6.cell 3 rfl
         have zr := bR6.free
         by_cases hz0 : z = 0
         ·subst hz0
          have Hr : Hid (rRead l k = (⟨x0, x2, x3 * 256 + x4, (l.drop 6).take u⟩, 0)) := by rw [hR]; rfl
          have Hlu : Hid (((l.drop 6).take u).length = u) := by
           show _ = _
           have := Hl.out
           rw [List.length_take, List.length_drop]
           omega
          clear hR hT hz hs1 own6 hownB
          go_wp2
          ((try simp only [Exit.inBlock, Exit.then]); refine bodyPost_ret (v := ?_) ?resultOf rfl ?_; case resultOf => (rw [results_cell_tmp rfl]; go_simp; rfl))
          rw [Hr.out]
          refine ⟨_, _, rfl, rfl, ⟨A1, c1, ?_, ?_⟩, ?_⟩
          ·rw [Hlu.out]
          ·rw [Hlu.out]
           refine own_more (base := V.heap.size) ?_ (by omega)
           (repeat (with_reducible (first | assumption | refine own_set ?_ (by simp <;> omega) _ | refine own_alloc ?_ _)))
          ·(repeat (with_reducible (first | assumption | exact Below.refl _ _ | refine Below.setCell ?_ (by simp <;> omega) _ | refine Below.alloc ?_ (by simp <;> omega) _ | refine Below.drew ?_ | refine below_drewN ?_ _)))
         ·have qz : (z != 0) = true := by simpa using hz0
          have Hr : Hid (rRead l k = (rZero, z)) := by show _ = _; rw [hR, if_pos hz0]
          clear hR hT hz hs1 own6 hownB
          go_wp2
          ((try simp only [Exit.inBlock, Exit.then]); refine bodyPost_ret (v := ?_) ?resultOf rfl ?_; case resultOf => (rw [results_cell_tmp rfl]; go_simp; rfl))
          rw [Hr.out]
          refine ⟨_, _, rfl, rfl, own_zero _ _, ?_⟩
          (repeat (with_reducible (first | assumption | exact Below.refl _ _ | refine Below.setCell ?_ (by simp <;> omega) _ | refine Below.alloc ?_ (by simp <;> omega) _ | refine Below.drew ?_ | refine below_drewN ?_ _)))
        ·skip
         go_wp2
         refine hK.out _ _ (ext_alloc _ _) ?_
         clear hK K
         try simp only [pA, pB, pC, pD]
         obtain ⟨w5, hw5⟩ : ∃ w5, w5 = V.drew.alloc (.cells #[.int .i64 0, .int .i64 0, .int .i64 0, .slice none 0 0] 51) := ⟨_, rfl⟩
         first | rw [← hw5] | rw [show (V.alloc (.cells #[.int .i64 0, .int .i64 0, .int .i64 0, .slice none 0 0] 51)).drew = w5 by rw [hw5]; rfl]
         have he5 : Ext V.drew w5 := by rw [hw5]; exact ext_alloc _ _
         have b9 : Box w5 V.heap.size 51 #[.int .i64 0, .int .i64 0, .int .i64 0, .slice none 0 0] := by rw [hw5]; exact Box.new _ _ _ rfl
         have hd := ext_trans hd he5
         have hlt9 := b9.lt
         clear hw5
         refine mixS 19 (by kernel_rfl) (by kernel_rfl) (by rfl) (by rfl) (fun K hK => ?_)
         go_wp2_with (go_at_call 101; refine (clone_w _ (Sl.below hcl (hd.mono (by omega))) (by have := hd.size; omega) (by rw [blim_def]; omega)).mono ?_; rintro e w1 ⟨v1, rfl, hown, he1⟩; obtain ⟨A1, c1, rfl, hs1⟩ := own_shape hown)
         refine hK.out _ _ (he1) ?_
         clear hK K
         try simp only [pA, pB, pC, pD]
         have hownB := hown
         have hown := own_more (base' := V.heap.size) hown hd.size
         have hd := ext_trans hd he1
         have b9 := b9.ext he1
         apply mixF 20 (by kernel_rfl) (by rfl) (by rfl)
         ·(intro w' hx; go_simp <;> with_reducible rfl)
         simp only [pA, pB, pC, pD]
         have n0 := b9.cell 0 rfl
         have n1 := b9.cell 1 rfl
         have n2 := b9.cell 2 rfl
         have n3 := b9.cell 3 rfl
         have zn := b9.free
         refine mixLast 22 (by kernel_rfl) (by kernel_rfl) (by kernel_rfl) (by rfl) (by rfl) (fun K hK => ?_)
         have hK' := Lib.hid hK
         clear hK
         go_wp2
         refine hK'.out _ _ ?_
         clear hK' K n0 n1 n2 n3 zn
         refine NoPanic.normal ?_
         have hzG : V.heap.size ≤ V.heap.size := by first | exact hd1.size | exact Nat.le_refl _
         obtain ⟨w6, hw6⟩ : ∃ w6, w6 = (((w1.setCell ⟨V.heap.size, 0, none⟩ (.int .i64 x0)).setCell ⟨V.heap.size, 1, none⟩ (.int .i64 x2)).setCell ⟨V.heap.size, 2, none⟩ (.int .i64 (x3 * 256 + x4))).setCell ⟨V.heap.size, 3, none⟩ (.slice A1 u c1) := ⟨_, rfl⟩
         rw [← hw6]
         have b9 : Box w6 V.heap.size 51 #[.int .i64 x0, .int .i64 x2, .int .i64 (x3 * 256 + x4), .slice A1 u c1] := by
          rw [hw6]
          exact (((b9.set 0 _).set 1 _).set 2 _).set 3 _
         have hd6 : Below V.heap.size V w6 := by rw [hw6]; (repeat (with_reducible (first | assumption | exact Below.refl _ _ | refine Below.setCell ?_ (by simp <;> omega) _ | refine Below.alloc ?_ (by simp <;> omega) _ | refine Below.drew ?_ | refine below_drewN ?_ _)))
         have own6 : w6.ownsRow V.heap.size 5 1 (.slice A1 u c1) u (u8s ((l.drop 6).take u)) := by
          rw [hw6]
          exact own_more (own_set (own_set (own_set (own_set hownB hlt9 _) hlt9 _) hlt9 _) hlt9 _) (by omega)
         clear hw6 hd
         have bR6 := bR.below hd6 (by omega)
         clear bR r0 r1 r2 r3 z0
         have n0 := b9.cell 0 rfl
         have n1 := b9.cell 1 rfl
         have n2 := b9.cell 2 rfl
         have n3 := b9.cell 3 rfl
         go_wp2_with fail
         refine (wrong_w (r := ⟨x0, x2, x3 * 256 + x4, (l.drop 6).take u⟩) _ (Sl.of_own own6)).mono ?_
         rintro e w7 ⟨rfl, he7⟩
         obtain ⟨z, hz⟩ : ∃ z, z = rWrong ⟨x0, x2, x3 * 256 + x4, (l.drop 6).take u⟩ := ⟨_, rfl⟩
         rw [← hz]
         have hT : rTold l = ⟨x0, x2, x3 * 256 + x4, (l.drop 6).take u⟩ := by
          unfold rTold sNum
          rw [← X0.out, ← X2.out, ← X3.out, ← X4.out]
          have e5 : (l.getD 5 0).toNat = u := by have := X5.out; omega
          rw [e5]
         have hR : rRead l k = if rWrong (rTold l) ≠ 0 then (rZero, rWrong (rTold l)) else (rTold l, 0) := by
          have e5 : (l.getD 5 0).toNat = u := by have := X5.out; omega
          unfold rRead
          rw [if_neg (by have := Hl.out; omega), if_neg (by rw [Hs.out]; simp), if_neg (by rw [← X1.out, hk]; simp), e5, if_neg (by omega), ha.out]
          rfl
         rw [hT, ← hz] at hR
         have b9 := b9.ext he7
         have bR6 := bR6.ext he7
         have own7 := own_ext own6 he7
         have hd7 : Below w.heap.size w w7 := he.trans ((hd6.mono (by omega)).trans (he7.mono (by have := hd6.size; omega)))
         have n0 := b9.cell 0 rfl
         have n1 := b9.cell 1 rfl
         have n2 := b9.cell 2 rfl
         have n3 := b9.cell 3 rfl
         have r0 := bR6.cell 0 rfl
         have r1 := bR6.cell 1 rfl
         have r2 := bR6.cell 2 rfl
         have r3 := bR6.cell 3 rfl
         have zr := bR6.free
         by_cases hz0 : z = 0
         ·subst hz0
          have Hr : Hid (rRead l k = (⟨x0, x2, x3 * 256 + x4, (l.drop 6).take u⟩, 0)) := by rw [hR]; rfl
          have Hlu : Hid (((l.drop 6).take u).length = u) := by
           show _ = _
           have := Hl.out
           rw [List.length_take, List.length_drop]
           omega
          clear hR hT hz hs1 own6 hownB
          go_wp2
          ((try simp only [Exit.inBlock, Exit.then]); refine bodyPost_ret (v := ?_) ?resultOf rfl ?_; case resultOf => (rw [results_cell_tmp rfl]; go_simp; rfl))
          rw [Hr.out]
          refine ⟨_, _, rfl, rfl, ⟨A1, c1, ?_, ?_⟩, ?_⟩
          ·rw [Hlu.out]
          ·rw [Hlu.out]
           refine own_more (base := V.heap.size) ?_ (by omega)
           (repeat (with_reducible (first | assumption | refine own_set ?_ (by simp <;> omega) _ | refine own_alloc ?_ _)))
          ·(repeat (with_reducible (first | assumption | exact Below.refl _ _ | refine Below.setCell ?_ (by simp <;> omega) _ | refine Below.alloc ?_ (by simp <;> omega) _ | refine Below.drew ?_ | refine below_drewN ?_ _)))
         ·have qz : (z != 0) = true := by simpa using hz0
          have Hr : Hid (rRead l k = (rZero, z)) := by show _ = _; rw [hR, if_pos hz0]
          clear hR hT hz hs1 own6 hownB
          go_wp2
          ((try simp only [Exit.inBlock, Exit.then]); refine bodyPost_ret (v := ?_) ?resultOf rfl ?_; case resultOf => (rw [results_cell_tmp rfl]; go_simp; rfl))
          rw [Hr.out]
          refine ⟨_, _, rfl, rfl, own_zero _ _, ?_⟩
          (repeat (with_reducible (first | assumption | exact Below.refl _ _ | refine Below.setCell ?_ (by simp <;> omega) _ | refine Below.alloc ?_ (by simp <;> omega) _ | refine Below.drew ?_ | refine below_drewN ?_ _)))
       ·skip
        go_wp2
        refine hK.out _ _ (ext_alloc _ _) ?_
        clear hK K
        try simp only [pA, pB, pC, pD]
        obtain ⟨w5, hw5⟩ : ∃ w5, w5 = V.drew.alloc (.cells #[.int .i64 0, .int .i64 0, .int .i64 0, .slice none 0 0] 51) := ⟨_, rfl⟩
        first | rw [← hw5] | rw [show (V.alloc (.cells #[.int .i64 0, .int .i64 0, .int .i64 0, .slice none 0 0] 51)).drew = w5 by rw [hw5]; rfl]
        have he5 : Ext V.drew w5 := by rw [hw5]; exact ext_alloc _ _
        have b9 : Box w5 V.heap.size 51 #[.int .i64 0, .int .i64 0, .int .i64 0, .slice none 0 0] := by rw [hw5]; exact Box.new _ _ _ rfl
        have hd := ext_trans hd he5
        have hlt9 := b9.lt
        clear hw5
        refine mixS 14 (by kernel_rfl) (by kernel_rfl) (by rfl) (by rfl) (fun K hK => ?_)
        go_wp2_with (go_at_call 148; refine (number_w x3 x4 _ ⟨x30, x31⟩ ⟨x40, x41⟩).mono ?_; rintro e w1 ⟨rfl, rfl⟩)
        refine hK.out _ _ (Below.refl _ _) ?_
        clear hK K
        try simp only [pA, pB, pC, pD]
        refine mixS 19 (by kernel_rfl) (by kernel_rfl) (by rfl) (by rfl) (fun K hK => ?_)
        go_wp2_with (go_at_call 101; refine (clone_w _ (Sl.below hcl (hd.mono (by omega))) (by have := hd.size; omega) (by rw [blim_def]; omega)).mono ?_; rintro e w1 ⟨v1, rfl, hown, he1⟩; obtain ⟨A1, c1, rfl, hs1⟩ := own_shape hown)
        refine hK.out _ _ (he1) ?_
        clear hK K
        try simp only [pA, pB, pC, pD]
        have hownB := hown
        have hown := own_more (base' := V.heap.size) hown hd.size
        have hd := ext_trans hd he1
        have b9 := b9.ext he1
        apply mixF 20 (by kernel_rfl) (by rfl) (by rfl)
        ·(intro w' hx; go_simp <;> with_reducible rfl)
        simp only [pA, pB, pC, pD]
        have n0 := b9.cell 0 rfl
        have n1 := b9.cell 1 rfl
        have n2 := b9.cell 2 rfl
        have n3 := b9.cell 3 rfl
        have zn := b9.free
        refine mixLast 22 (by kernel_rfl) (by kernel_rfl) (by kernel_rfl) (by rfl) (by rfl) (fun K hK => ?_)
        have hK' := Lib.hid hK
        clear hK
        go_wp2
        refine hK'.out _ _ ?_
        clear hK' K n0 n1 n2 n3 zn
        refine NoPanic.normal ?_
        have hzG : V.heap.size ≤ V.heap.size := by first | exact hd1.size | exact Nat.le_refl _
        obtain ⟨w6, hw6⟩ : ∃ w6, w6 = (((w1.setCell ⟨V.heap.size, 0, none⟩ (.int .i64 x0)).setCell ⟨V.heap.size, 1, none⟩ (.int .i64 x2)).setCell ⟨V.heap.size, 2, none⟩ (.int .i64 (x3 * 256 + x4))).setCell ⟨V.heap.size, 3, none⟩ (.slice A1 u c1) := ⟨_, rfl⟩
        rw [← hw6]
        have b9 : Box w6 V.heap.size 51 #[.int .i64 x0, .int .i64 x2, .int .i64 (x3 * 256 + x4), .slice A1 u c1] := by
         rw [hw6]
         exact (((b9.set 0 _).set 1 _).set 2 _).set 3 _
        have hd6 : Below V.heap.size V w6 := by rw [hw6]; (repeat (with_reducible (first | assumption | exact Below.refl _ _ | refine Below.setCell ?_ (by simp <;> omega) _ | refine Below.alloc ?_ (by simp <;> omega) _ | refine Below.drew ?_ | refine below_drewN ?_ _)))
        have own6 : w6.ownsRow V.heap.size 5 1 (.slice A1 u c1) u (u8s ((l.drop 6).take u)) := by
         rw [hw6]
         exact own_more (own_set (own_set (own_set (own_set hownB hlt9 _) hlt9 _) hlt9 _) hlt9 _) (by omega)
        clear hw6 hd
        have bR6 := bR.below hd6 (by omega)
        clear bR r0 r1 r2 r3 z0
        have n0 := b9.cell 0 rfl
        have n1 := b9.cell 1 rfl
        have n2 := b9.cell 2 rfl
        have n3 := b9.cell 3 rfl
        go_wp2_with fail
        refine (wrong_w (r := ⟨x0, x2, x3 * 256 + x4, (l.drop 6).take u⟩) _ (Sl.of_own own6)).mono ?_
        rintro e w7 ⟨rfl, he7⟩
        obtain ⟨z, hz⟩ : ∃ z, z = rWrong ⟨x0, x2, x3 * 256 + x4, (l.drop 6).take u⟩ := ⟨_, rfl⟩
        rw [← hz]
        have hT : rTold l = ⟨x0, x2, x3 * 256 + x4, (l.drop 6).take u⟩ := by
         unfold rTold sNum
         rw [← X0.out, ← X2.out, ← X3.out, ← X4.out]
         have e5 : (l.getD 5 0).toNat = u := by have := X5.out; omega
         rw [e5]
        have hR : rRead l k = if rWrong (rTold l) ≠ 0 then (rZero, rWrong (rTold l)) else (rTold l, 0) := by
         have e5 : (l.getD 5 0).toNat = u := by have := X5.out; omega
         unfold rRead
         rw [if_neg (by have := Hl.out; omega), if_neg (by rw [Hs.out]; simp), if_neg (by rw [← X1.out, hk]; simp), e5, if_neg (by omega), ha.out]
         rfl
        rw [hT, ← hz] at hR
        have b9 := b9.ext he7
        have bR6 := bR6.ext he7
        have own7 := own_ext own6 he7
        have hd7 : Below w.heap.size w w7 := he.trans ((hd6.mono (by omega)).trans (he7.mono (by have := hd6.size; omega)))
        have n0 := b9.cell 0 rfl
        have n1 := b9.cell 1 rfl
        have n2 := b9.cell 2 rfl
        have n3 := b9.cell 3 rfl
        have r0 := bR6.cell 0 rfl
        have r1 := bR6.cell 1 rfl
        have r2 := bR6.cell 2 rfl
        have r3 := bR6.cell 3 rfl
        have zr := bR6.free
        by_cases hz0 : z = 0
        ·subst hz0
         have Hr : Hid (rRead l k = (⟨x0, x2, x3 * 256 + x4, (l.drop 6).take u⟩, 0)) := by rw [hR]; rfl
         have Hlu : Hid (((l.drop 6).take u).length = u) := by
          show _ = _
          have := Hl.out
          rw [List.length_take, List.length_drop]
          omega
         clear hR hT hz hs1 own6 hownB
         go_wp2
         ((try simp only [Exit.inBlock, Exit.then]); refine bodyPost_ret (v := ?_) ?resultOf rfl ?_; case resultOf => (rw [results_cell_tmp rfl]; go_simp; rfl))
         rw [Hr.out]
         refine ⟨_, _, rfl, rfl, ⟨A1, c1, ?_, ?_⟩, ?_⟩
         ·rw [Hlu.out]
         ·rw [Hlu.out]
          refine own_more (base := V.heap.size) ?_ (by omega)
          (repeat (with_reducible (first | assumption | refine own_set ?_ (by simp <;> omega) _ | refine own_alloc ?_ _)))
         ·(repeat (with_reducible (first | assumption | exact Below.refl _ _ | refine Below.setCell ?_ (by simp <;> omega) _ | refine Below.alloc ?_ (by simp <;> omega) _ | refine Below.drew ?_ | refine below_drewN ?_ _)))
        ·have qz : (z != 0) = true := by simpa using hz0
         have Hr : Hid (rRead l k = (rZero, z)) := by show _ = _; rw [hR, if_pos hz0]
         clear hR hT hz hs1 own6 hownB
         go_wp2
         ((try simp only [Exit.inBlock, Exit.then]); refine bodyPost_ret (v := ?_) ?resultOf rfl ?_; case resultOf => (rw [results_cell_tmp rfl]; go_simp; rfl))
         rw [Hr.out]
         refine ⟨_, _, rfl, rfl, own_zero _ _, ?_⟩
         (repeat (with_reducible (first | assumption | exact Below.refl _ _ | refine Below.setCell ?_ (by simp <;> omega) _ | refine Below.alloc ?_ (by simp <;> omega) _ | refine Below.drew ?_ | refine below_drewN ?_ _)))
    ·have Hr := Lib.hid (show rRead l k = (rZero, 4) by unfold rRead; rw [if_neg (by have := Hl.out; omega), if_neg (by rw [Hs.out]; simp), if_neg (by rw [← X1.out, hk]; simp), if_pos (by have := X5.out; omega)])
     have q2 : decide ((8 : Int) < (u : Int)) = true := by simp; omega
     go_wp2
     ((try simp only [Exit.inBlock, Exit.then]); refine bodyPost_ret (v := ?_) ?resultOf rfl ?_; case resultOf => (rw [results_cell_tmp rfl]; go_simp; rfl))
     rw [Hr.out]
     refine ⟨_, _, rfl, rfl, own_zero _ _, ?_⟩
     (repeat (with_reducible (first | assumption | exact Below.refl _ _ | refine Below.setCell ?_ (by simp <;> omega) _ | refine Below.alloc ?_ (by simp <;> omega) _ | refine Below.drew ?_ | refine below_drewN ?_ _)))
   ·have Hr := Lib.hid (show rRead l k = (rZero, 8) by unfold rRead; rw [if_neg (by have := Hl.out; omega), if_neg (by rw [Hs.out]; simp), if_pos (by rw [← X1.out]; exact hk)])
    have q1 : (x1 != k) = true := by simpa using hk
    go_wp2
    ((try simp only [Exit.inBlock, Exit.then]); refine bodyPost_ret (v := ?_) ?resultOf rfl ?_; case resultOf => (rw [results_cell_tmp rfl]; go_simp; rfl))
    rw [Hr.out]
    refine ⟨_, _, rfl, rfl, own_zero _ _, ?_⟩
    (repeat (with_reducible (first | assumption | exact Below.refl _ _ | refine Below.setCell ?_ (by simp <;> omega) _ | refine Below.alloc ?_ (by simp <;> omega) _ | refine Below.drew ?_ | refine below_drewN ?_ _)))
 ·have q1 : ((n : Int) != 16) = true := by rw [bne_iff_ne]; omega
  have Hr := Lib.hid (show rRead l k = (rZero, 2) by unfold rRead; rw [if_pos (by omega)])
  go_enter Tryz.func132, Tryz.ntmps132
  go_wp2
  ((try simp only [Exit.inBlock, Exit.then]); refine bodyPost_ret (v := ?_) ?resultOf rfl ?_; case resultOf => (rw [results_cell_tmp rfl]; go_simp; rfl))
  rw [Hr.out]
  refine ⟨_, _, rfl, rfl, own_zero _ _, ?_⟩
  (repeat (with_reducible (first | assumption | exact Below.refl _ _ | refine Below.setCell ?_ (by simp <;> omega) _ | refine Below.alloc ?_ (by simp <;> omega) _ | refine Below.drew ?_ | refine below_drewN ?_ _)))
end Go.Proofs.YtmcgbdbhpnplmaaGreat
/- Walks: a block's record read, the document's. -/
namespace Go.Proofs.YtmcgbdbhpnplmaaGreat
open Go Go.RowKit
theorem bad_w (q : Int) (w : World) :
  Calls Tryz.prog 129 #[.int .i64 q] w fun e w' => e = .returned (.tuple #[.agg #[.int .i64 0, .int .i64 0, .int .i64 0, .slice none 0 0], .int .i64 q]) ∧ Ext w w' := by
 go_enter Tryz.func129, Tryz.ntmps129
 go_wp2
 ((try simp only [Exit.inBlock, Exit.then]); refine bodyPost_ret (v := ?_) ?resultOf rfl ?_; case resultOf => (rw [results_cell_tmp rfl]; go_simp; rfl))
 refine ⟨rfl, ?_⟩
 (repeat (with_reducible (first | assumption | exact Below.refl _ _ | refine Below.setCell ?_ (by simp <;> omega) _ | refine Below.alloc ?_ (by simp <;> omega) _ | refine Below.drew ?_ | refine below_drewN ?_ _)))
set_option maxRecDepth 100000 in
set_option maxHeartbeats 20000000 in
theorem refRead_w {A : Option Addr} {n c B : Nat} {l : List UInt8} {k : Int} (w : World) (h : By w B A n c l) (hB : B ≤ w.heap.size) (hn : n ≤ blim) :
  Calls Tryz.prog 112 #[.slice A n c, .int .i64 k] w fun e w' => ∃ v q, e = .returned (.tuple #[v, .int .i64 q]) ∧ q = (rRead l k).2 ∧ OwnRec w w' v (rRead l k).1 ∧ Ext w w' := by
 have hl := h.len
 have hc := Sl.cap h
 have hm := Sl.max h
 unfold maxLen at hm
 by_cases h16 : n = 16
 ·subst h16
  cases hs : sSealed l with
  | false =>
   have Hr := Lib.hid (show rRead l k = (rZero, 7) by unfold rRead; rw [if_neg (by omega), if_pos hs])
   go_enter Tryz.func112, Tryz.ntmps112
   go_wp2_with fail
   refine (refSealed_w _ _ _ _ l _ (Sl.below h ((ext_alloc _ _).mono hB)) (by simp; omega) hn).mono ?_
   rintro e V ⟨rfl, heV⟩
   have he : Ext w V := ext_trans (ext_alloc _ _) heV
   have bR : Box V w.heap.size 51 _ := (Box.new w _ _ rfl).ext heV
   rw [hs]
   go_wp2_with fail
   refine (bad_w _ _).mono ?_
   rintro e wb ⟨rfl, heb⟩
   have heb' : Ext w wb := ext_trans (by (repeat (with_reducible (first | assumption | exact Below.refl _ _ | refine Below.setCell ?_ (by simp <;> omega) _ | refine Below.alloc ?_ (by simp <;> omega) _ | refine Below.drew ?_ | refine below_drewN ?_ _)))) heb
   have bB : Box wb w.heap.size 51 #[.int .i64 0, .int .i64 0, .int .i64 0, .slice none 0 0] := by
    refine Box.ext ?_ heb
    first | exact bR | exact Box.new _ _ _ rfl
   have t0 := bB.cell 0 rfl
   have t1 := bB.cell 1 rfl
   have t2 := bB.cell 2 rfl
   have t3 := bB.cell 3 rfl
   have tz := bB.free
   go_wp2
   ((try simp only [Exit.inBlock, Exit.then]); refine bodyPost_ret (v := ?_) ?resultOf rfl ?_; case resultOf => (rw [results_cell_tmp rfl]; go_simp; rfl))
   rw [Hr.out]
   refine ⟨_, _, rfl, rfl, own_zero _ _, ?_⟩
   (repeat (with_reducible (first | assumption | exact Below.refl _ _ | refine Below.setCell ?_ (by simp <;> omega) _ | refine Below.alloc ?_ (by simp <;> omega) _ | refine Below.drew ?_ | refine below_drewN ?_ _)))
  | true =>
   have Hs := Lib.hid hs
   go_enter Tryz.func112, Tryz.ntmps112
   go_wp2_with fail
   refine (refSealed_w _ _ _ _ l _ (Sl.below h ((ext_alloc _ _).mono hB)) (by simp; omega) hn).mono ?_
   rintro e V ⟨rfl, heV⟩
   have he : Ext w V := ext_trans (ext_alloc _ _) heV
   have bR : Box V w.heap.size 51 _ := (Box.new w _ _ rfl).ext heV
   have hzV := heV.size
   rw [size_alloc] at hzV
   rw [hs]
   have hb : By V B A 16 c l := Sl.below h (he.mono hB)
   obtain ⟨b, o, x0, rfl, hbB, c0, x00, x01, X0⟩ := hb.byte (k := 0) (by omega)
   obtain ⟨_, _, x1, e', _, c1, x10, x11, X1⟩ := hb.byte (k := 1) (by omega)
   cases e'
   obtain ⟨_, _, x2, e', _, c2, x20, x21, X2⟩ := hb.byte (k := 2) (by omega)
   cases e'
   obtain ⟨_, _, x3, e', _, c3, x30, x31, X3⟩ := hb.byte (k := 3) (by omega)
   cases e'
   obtain ⟨_, _, x4, e', _, c4, x40, x41, X4⟩ := hb.byte (k := 4) (by omega)
   cases e'
   obtain ⟨_, _, x5, e', _, c5, x50, x51, X5⟩ := hb.byte (k := 5) (by omega)
   cases e'
   obtain ⟨u, rfl⟩ := Int.eq_ofNat_of_zero_le x50
   have p0 : IntKind.i64.wrap x0 = x0 := IntWalk.i64_in _ (by omega)
   have p1 : IntKind.i64.wrap x1 = x1 := IntWalk.i64_in _ (by omega)
   have p2 : IntKind.i64.wrap x2 = x2 := IntWalk.i64_in _ (by omega)
   have p5 : IntKind.i64.wrap (u : Int) = (u : Int) := IntWalk.i64_in _ (by omega)
   have Hl := Lib.hid hl
   rw [Nat.add_zero] at c0
   clear heV hl hs
   by_cases hk : x1 = k
   ·have q1 : (x1 != k) = false := by simpa using hk
    by_cases h8 : u ≤ 8
    ·have q2 : decide ((8 : Int) < (u : Int)) = false := by simp; omega
     have p3 : IntKind.i64.wrap x3 = x3 := IntWalk.i64_in _ (by omega)
     have p4 : IntKind.i64.wrap x4 = x4 := IntWalk.i64_in _ (by omega)
     have p6 : IntKind.i64.wrap (256 * x3) = 256 * x3 := IntWalk.i64_in _ (by omega)
     have p7 : IntKind.i64.wrap (256 * x3 + x4) = 256 * x3 + x4 := IntWalk.i64_in _ (by omega)
     go_wp2_with fail
     refine wp_region_ext 21 [0, 1, 2, 3, 4, 5, 6, 7, 8, 9, 10, 11, 12, 13, 14, 15, 16, 17, 18] true rfl (by kernel_rfl) (by kernel_rfl) ?_
     have hd : Below V.heap.size V V.drew := (Below.refl _ _).drew
     apply mixF 0 (by kernel_rfl) (by rfl) (by rfl)
     ·(intro w' hx; go_simp <;> with_reducible rfl)
     simp only [pA, pB, pC, pD]
     apply mixF 1 (by kernel_rfl) (by rfl) (by rfl)
     ·(intro w' hx; go_simp <;> with_reducible rfl)
     simp only [pA, pB, pC, pD]
     apply mixF 2 (by kernel_rfl) (by rfl) (by rfl)
     ·(intro w' hx; have q := (hx.cell (p := ⟨b, o, none⟩) (show b < V.heap.size by omega)).trans c0; go_simp <;> with_reducible rfl)
     simp only [pA, pB, pC, pD]
     apply mixF 3 (by kernel_rfl) (by rfl) (by rfl)
     ·(intro w' hx; go_simp <;> with_reducible rfl)
     simp only [pA, pB, pC, pD]
     apply mixF 4 (by kernel_rfl) (by rfl) (by rfl)
     ·(intro w' hx; go_simp <;> with_reducible rfl)
     simp only [pA, pB, pC, pD]
     apply mixF 5 (by kernel_rfl) (by rfl) (by rfl)
     ·(intro w' hx; go_simp <;> with_reducible rfl)
     simp only [pA, pB, pC, pD]
     apply mixF 6 (by kernel_rfl) (by rfl) (by rfl)
     ·(intro w' hx; have q := (hx.cell (p := ⟨b, o + 2, none⟩) (show b < V.heap.size by omega)).trans c2; go_simp <;> with_reducible rfl)
     simp only [pA, pB, pC, pD]
     apply mixF 7 (by kernel_rfl) (by rfl) (by rfl)
     ·(intro w' hx; go_simp <;> with_reducible rfl)
     simp only [pA, pB, pC, pD]
     apply mixF 8 (by kernel_rfl) (by rfl) (by rfl)
     ·(intro w' hx; go_simp <;> with_reducible rfl)
     simp only [pA, pB, pC, pD]
     apply mixF 9 (by kernel_rfl) (by rfl) (by rfl)
     ·(intro w' hx; go_simp <;> with_reducible rfl)
     simp only [pA, pB, pC, pD]
     apply mixF 10 (by kernel_rfl) (by rfl) (by rfl)
     ·(intro w' hx; have q := (hx.cell (p := ⟨b, o + 3, none⟩) (show b < V.heap.size by omega)).trans c3; go_simp <;> with_reducible rfl)
     simp only [pA, pB, pC, pD]
     apply mixF 11 (by kernel_rfl) (by rfl) (by rfl)
     ·(intro w' hx; go_simp <;> with_reducible rfl)
     simp only [pA, pB, pC, pD]
     apply mixF 12 (by kernel_rfl) (by rfl) (by rfl)
     ·(intro w' hx; go_simp <;> with_reducible rfl)
     simp only [pA, pB, pC, pD]
     apply mixF 13 (by kernel_rfl) (by rfl) (by rfl)
     ·(intro w' hx; go_simp <;> with_reducible rfl)
     simp only [pA, pB, pC, pD]
     apply mixF 14 (by kernel_rfl) (by rfl) (by rfl)
     ·(intro w' hx; go_simp <;> with_reducible rfl)
     simp only [pA, pB, pC, pD]
     apply mixF 15 (by kernel_rfl) (by rfl) (by rfl)
     ·(intro w' hx; have q := (hx.cell (p := ⟨b, o + 4, none⟩) (show b < V.heap.size by omega)).trans c4; go_simp <;> with_reducible rfl)
     simp only [pA, pB, pC, pD]
     apply mixF 16 (by kernel_rfl) (by rfl) (by rfl)
     ·(intro w' hx; go_simp <;> with_reducible rfl)
     simp only [pA, pB, pC, pD]
     apply mixF 17 (by kernel_rfl) (by rfl) (by rfl)
     ·(intro w' hx; go_simp <;> with_reducible rfl)
     simp only [pA, pB, pC, pD]
     apply mixF 18 (by kernel_rfl) (by rfl) (by rfl)
     ·(intro w' hx; go_simp <;> with_reducible rfl)
     simp only [pA, pB, pC, pD]
     refine mixS 19 (by kernel_rfl) (by kernel_rfl) (by rfl) (by rfl) (fun K hK => ?_)
     go_wp2
     refine hK.out _ _ (ext_alloc _ _) ?_
     clear hK K
     try simp only [pA, pB, pC, pD]
     obtain ⟨w5, hw5⟩ : ∃ w5, w5 = V.drew.alloc (.cells #[.int .i64 0, .int .i64 0, .int .i64 0, .slice none 0 0] 51) := ⟨_, rfl⟩
     first | rw [← hw5] | rw [show (V.alloc (.cells #[.int .i64 0, .int .i64 0, .int .i64 0, .slice none 0 0] 51)).drew = w5 by rw [hw5]; rfl]
     have he5 : Ext V.drew w5 := by rw [hw5]; exact ext_alloc _ _
     have b9 : Box w5 V.heap.size 51 #[.int .i64 0, .int .i64 0, .int .i64 0, .slice none 0 0] := by rw [hw5]; exact Box.new _ _ _ rfl
     have hd := ext_trans hd he5
     clear hw5 he5
     have n0 := b9.cell 0 rfl
     have n1 := b9.cell 1 rfl
     have n2 := b9.cell 2 rfl
     have n3 := b9.cell 3 rfl
     have zn := b9.free
     refine mixLast 20 (by kernel_rfl) (by kernel_rfl) (by kernel_rfl) (by rfl) (by rfl) (fun K hK => ?_)
     have hK' := Lib.hid hK
     clear hK
     go_wp2
     refine hK'.out _ _ ?_
     clear hK' K n0 n1 n2 n3 zn
     refine NoPanic.normal ?_
     obtain ⟨w6, hw6⟩ : ∃ w6, w6 = (((w5.setCell ⟨V.heap.size, 0, none⟩ (.int .i64 x0)).setCell ⟨V.heap.size, 1, none⟩ (.int .i64 x2)).setCell ⟨V.heap.size, 2, none⟩ (.int .i64 (256 * x3 + x4))).setCell ⟨V.heap.size, 3, none⟩ (.slice none 0 0) := ⟨_, rfl⟩
     rw [← hw6]
     have b9 : Box w6 V.heap.size 51 #[.int .i64 x0, .int .i64 x2, .int .i64 (256 * x3 + x4), .slice none 0 0] := by
      rw [hw6]
      exact (((b9.set 0 _).set 1 _).set 2 _).set 3 _
     have hd6 : Below V.heap.size V w6 := by rw [hw6]; (repeat (with_reducible (first | assumption | exact Below.refl _ _ | refine Below.setCell ?_ (by simp <;> omega) _ | refine Below.alloc ?_ (by simp <;> omega) _ | refine Below.drew ?_ | refine below_drewN ?_ _)))
     clear hw6 hd
     go_wp2_with fail
     have q3 : IntKind.i64.wrap (6 + (u : Int)) = 6 + (u : Int) := IntWalk.i64_in _ (by omega)
     go_loopw [8] (fun i wr => ∃ (j : Nat) (v : Value), 6 ≤ j ∧ j ≤ 14 ∧ i = .int .i64 j ∧ Box wr V.heap.size 51 #[.int .i64 x0, .int .i64 x2, .int .i64 (256 * x3 + x4), v] ∧
       wr.ownsRow (V.heap.size + 1) 5 1 v (min (j - 6) u) (u8s ((l.drop 6).take (min (j - 6) u))) ∧ Hid (((l.drop (6 + u)).take (j - 6 - u)).any (fun c => c != 0) = false) ∧ Below V.heap.size V wr) (fun i _ => 14 - (intOf i).toNat)
     case atStart => exact ⟨6, _, by omega, by omega, rfl, b9, by rw [show min (6 - 6) u = 0 by omega]; exact own_nil _ _ _ _, (show _ = _ from by simp), hd6⟩
     case round =>
      obtain ⟨j, v, hj6, hj14, rfl, b7, hown, ha, hdr⟩ := hrel
      have hzr := hdr.size
      have hbr : By wr B (some ⟨b, o, none⟩) 16 c l := Sl.below hb (hdr.mono (by omega))
      have bRr := bR.below hdr (by omega)
      have her : Ext w wr := he.trans (hdr.mono (by omega))
      obtain ⟨_, _, y5, e', _, c5r, _, _, Y5⟩ := hbr.byte (k := 5) (by omega)
      cases e'
      have e5 : y5 = (u : Int) := Y5.out.trans X5.out.symm
      subst e5
      have i0 : (0 : Int) ≤ (j : Int) := by omega
      by_cases hlt : j < 14
      ·have i1 : (j : Int) < 14 := by omega
       have i2 : (j : Int) < 16 := by omega
       obtain ⟨_, _, y, e', _, cy, y0, y1, Y⟩ := hbr.byte (k := j) (by omega)
       cases e'
       have i3 : IntKind.i64.wrap ((j : Int) + 1) = (j : Int) + 1 := IntWalk.i64_in _ (by omega)
       by_cases hju : j < 6 + u
       ·have q5 : (j : Int) < 6 + (u : Int) := by omega
        have em : min (j - 6) u = j - 6 := by omega
        rw [em] at hown
        obtain ⟨Av, cv, rfl, hsv⟩ := own_shape hown
        go_wp2_with fail
        refine wp_region_below (V.heap.size + 1) 10 [0, 1, 2, 3, 4, 5, 8] true rfl (by kernel_rfl) (by kernel_rfl) ?_
        obtain ⟨D, hD⟩ : ∃ D, D = wr.drew := ⟨_, rfl⟩
        rw [← hD]
        have bD : Box D V.heap.size 51 #[.int .i64 x0, .int .i64 x2, .int .i64 (256 * x3 + x4), .slice Av (j - 6) cv] := by rw [hD]; exact b7
        have ownD : D.ownsRow (V.heap.size + 1) 5 1 (.slice Av (j - 6) cv) (j - 6) (u8s ((l.drop 6).take (j - 6))) := by rw [hD]; exact hown
        have cyD : D.cell? ⟨b, o + j, none⟩ = some (.int .u8 y) := by rw [hD]; exact cy
        have hdD : Below V.heap.size V D := by rw [hD]; exact hdr.drew
        have hltD := bD.lt
        clear hD
        apply mixF 0 (by kernel_rfl) (by rfl) (by rfl)
        ·(intro w' hx; go_simp <;> with_reducible rfl)
        simp only [pA, pB, pC, pD]
        apply mixF 1 (by kernel_rfl) (by rfl) (by rfl)
        ·(intro w' hx; have q := (bD.below hx (by omega)).cell 3 rfl; go_simp <;> with_reducible rfl)
        simp only [pA, pB, pC, pD]
        apply mixF 2 (by kernel_rfl) (by rfl) (by rfl)
        ·(intro w' hx; go_simp <;> with_reducible rfl)
        simp only [pA, pB, pC, pD]
        apply mixF 3 (by kernel_rfl) (by rfl) (by rfl)
        ·(intro w' hx; go_simp <;> with_reducible rfl)
        simp only [pA, pB, pC, pD]
        apply mixF 4 (by kernel_rfl) (by rfl) (by rfl)
        ·(intro w' hx; go_simp <;> with_reducible rfl)
        simp only [pA, pB, pC, pD]
        apply mixF 5 (by kernel_rfl) (by rfl) (by rfl)
        ·(intro w' hx; have q := (hx.cell (p := ⟨b, o + j, none⟩) (show b < V.heap.size + 1 by omega)).trans cyD; go_simp <;> with_reducible rfl)
        simp only [pA, pB, pC, pD]
        refine mixS 6 (by kernel_rfl) (by kernel_rfl) (by rfl) (by rfl) (fun K hK => ?_)
        go_wp2
        refine hK.out _ _ ((ext_alloc _ _).mono (by omega)) ?_
        clear hK K
        try simp only [pA, pB, pC, pD]
        obtain ⟨w4, hw4⟩ : ∃ w4, w4 = D.alloc (.cells #[.int .u8 y] 5) := ⟨_, rfl⟩
        rw [← hw4]
        have he4 : Ext D w4 := by rw [hw4]; exact ext_alloc _ _
        have hs4 : Sl w4 w4.heap.size 1 (some ⟨D.heap.size, 0, none⟩) 1 1 [.int .u8 y] := by rw [hw4]; exact Sl.new _ _ _ _ 1 1 rfl (by unfold maxLen; omega) (by simp)
        have own4 := own_ext ownD he4
        have hz4 := he4.size
        clear hw4
        refine mixS 7 (by kernel_rfl) (by kernel_rfl) (by rfl) (by rfl) (fun K hK => ?_)
        refine wp_app_u8 (.tmp 73) (.tmp 78) rfl (V.heap.size + 1) (.slice Av (j - 6) cv) (j - 6) _ rfl own4 _ _ 1 1 [.int .u8 y] rfl hs4 (by simp [Value.oneCell']) (by rw [blim_def]; omega) (by omega) ?_
        intro v7 w7 own7 hg7 hb7 hat7
        refine hK.out _ _ hb7 ?_
        clear hK K hat7
        try simp only [pA, pB, pC, pD]
        have hd7 : Below (V.heap.size + 1) D w7 := (he4.mono (by omega)).trans hb7
        have b8_ := bD.below hd7 (by omega)
        have n0 := b8_.cell 3 rfl
        have zn := b8_.free
        apply mixF 8 (by kernel_rfl) (by rfl) (by rfl)
        ·(intro w' hx; go_simp <;> with_reducible rfl)
        simp only [pA, pB, pC, pD]
        refine mixLast 9 (by kernel_rfl) (by kernel_rfl) (by kernel_rfl) (by rfl) (by rfl) (fun K hK => ?_)
        obtain ⟨A7, c7, rfl, hs7⟩ := own_shape own7
        have hK' := Lib.hid hK
        clear hK
        go_wp2
        refine hK'.out _ _ ?_
        clear hK' K n0 zn
        refine NoPanic.normal ?_
        have hu' : (u8s ((l.drop 6).take (j - 6)) ++ [Value.int .u8 y]) = u8s ((l.drop 6).take (j - 6 + 1)) := by
         rw [List.take_succ_eq_append_getElem (by rw [List.length_drop]; have := Hl.out; omega), u8s_append]
         congr 1
         have e6 : 6 + (j - 6) = j := by omega
         simp only [List.getElem_drop, e6, u8s, List.map_cons, List.map_nil, u8v]
         have := Y.out
         rw [List.getD_eq_getElem?_getD, List.getElem?_eq_getElem (by have := Hl.out; omega)] at this
         rw [this]
         rfl
        rw [hu'] at own7
        clear hu' b7 bD
        go_wp2
        go_roundw
        case rel =>
         refine ⟨j + 1, _, by omega, by omega, by go_num, b8_.set 3 _, ?_, ?_, ?_⟩
         ·have em' : min (j + 1 - 6) u = j - 6 + 1 := by omega
          rw [em']
          exact own_set own7 (by simp) _
         ·have : j + 1 - 6 - u = 0 := by omega
          rw [this]; show _ = _; simp
         ·exact (hdD.trans (hd7.mono (by omega))).setCell (Nat.le_refl _) _
        case measure => simp [intOf]; omega
       ·have q5 : ¬ ((j : Int) < 6 + (u : Int)) := by omega
        have em : min (j - 6) u = u := by omega
        rw [em] at hown
        have e6 : 6 + u + (j - 6 - u) = j := by omega
        by_cases hy : y = 0
        ·subst hy
         have hs := Lib.hid (any_succ l (6 + u) (j - 6 - u) ha.out (by rw [e6]; apply UInt8.toNat_inj.1; have := Y.out; simp only [UInt8.toNat_zero]; omega))
         have hj1 : j - 6 - u + 1 = j + 1 - 6 - u := by omega
         rw [hj1] at hs
         have em' : min (j + 1 - 6) u = u := by omega
         go_wp2_with fail
         go_roundw
         case rel => exact ⟨j + 1, v, by omega, by omega, by go_num, b7, by rw [em']; exact hown, hs, hdr⟩
         case measure => simp [intOf]; omega
        ·have qy : (y != 0) = true := by simpa using hy
         have Hr := Lib.hid (show rRead l k = (rZero, 2) by
          have e5 : (l.getD 5 0).toNat = u := by have := X5.out; omega
          unfold rRead
          rw [if_neg (by have := Hl.out; omega), if_neg (by rw [Hs.out]; simp), if_neg (by rw [← X1.out, hk]; simp), e5, if_neg (by omega), any_true l (6 + u) (8 - u) (j - 6 - u) (by omega) (by have := Hl.out; omega) (by rw [e6]; intro e0; apply hy; rw [Y.out, e0]; rfl)]
          rfl)
         have bR := bRr
         go_wp2_with fail
         refine (bad_w _ _).mono ?_
         rintro e wb ⟨rfl, heb⟩
         have heb' : Ext w wb := ext_trans (by (repeat (with_reducible (first | assumption | exact Below.refl _ _ | refine Below.setCell ?_ (by simp <;> omega) _ | refine Below.alloc ?_ (by simp <;> omega) _ | refine Below.drew ?_ | refine below_drewN ?_ _)))) heb
         have bB : Box wb w.heap.size 51 #[.int .i64 0, .int .i64 0, .int .i64 0, .slice none 0 0] := by
          refine Box.ext ?_ heb
          first | exact bR | exact Box.new _ _ _ rfl
         have t0 := bB.cell 0 rfl
         have t1 := bB.cell 1 rfl
         have t2 := bB.cell 2 rfl
         have t3 := bB.cell 3 rfl
         have tz := bB.free
         go_wp2
         ((try simp only [Exit.inBlock, Exit.then]); refine bodyPost_ret (v := ?_) ?resultOf rfl ?_; case resultOf => (rw [results_cell_tmp rfl]; go_simp; rfl))
         rw [Hr.out]
         refine ⟨_, _, rfl, rfl, own_zero _ _, ?_⟩
         (repeat (with_reducible (first | assumption | exact Below.refl _ _ | refine Below.setCell ?_ (by simp <;> omega) _ | refine Below.alloc ?_ (by simp <;> omega) _ | refine Below.drew ?_ | refine below_drewN ?_ _)))
      ·have hj : j = 14 := by omega
       subst hj
       have em : min (14 - 6) u = u := by omega
       have em2 : 14 - 6 - u = 8 - u := by omega
       rw [em] at hown
       rw [em2] at ha
       obtain ⟨Av, cv, rfl, hsv⟩ := own_shape hown
       have n0 := b7.cell 0 rfl
       have n1 := b7.cell 1 rfl
       have n2 := b7.cell 2 rfl
       have n3 := b7.cell 3 rfl
       go_wp2_with fail
       refine (refWrong_w (r := ⟨x0, x2, 256 * x3 + x4, (l.drop 6).take u⟩) _ (Sl.of_own hown)).mono ?_
       rintro e w7 ⟨rfl, he7⟩
       obtain ⟨z, hz⟩ : ∃ z, z = rWrong ⟨x0, x2, 256 * x3 + x4, (l.drop 6).take u⟩ := ⟨_, rfl⟩
       rw [← hz]
       have hT : rTold l = ⟨x0, x2, 256 * x3 + x4, (l.drop 6).take u⟩ := by
        unfold rTold sNum
        rw [← X0.out, ← X2.out, ← X3.out, ← X4.out]
        have e5 : (l.getD 5 0).toNat = u := by have := X5.out; omega
        rw [e5, show 256 * x3 + x4 = x3 * 256 + x4 by omega]
       have hR : rRead l k = if rWrong (rTold l) ≠ 0 then (rZero, rWrong (rTold l)) else (rTold l, 0) := by
        have e5 : (l.getD 5 0).toNat = u := by have := X5.out; omega
        unfold rRead
        rw [if_neg (by have := Hl.out; omega), if_neg (by rw [Hs.out]; simp), if_neg (by rw [← X1.out, hk]; simp), e5, if_neg (by omega), ha.out]
        rfl
       rw [hT, ← hz] at hR
       have b9 := b7.ext he7
       have bR := bRr.ext he7
       have own7 := own_ext hown he7
       have her : Ext w w7 := ext_trans her he7
       clear b7 bRr he7
       have n0 := b9.cell 0 rfl
       have n1 := b9.cell 1 rfl
       have n2 := b9.cell 2 rfl
       have n3 := b9.cell 3 rfl
       have r0 := bR.cell 0 rfl
       have r1 := bR.cell 1 rfl
       have r2 := bR.cell 2 rfl
       have r3 := bR.cell 3 rfl
       have zr := bR.free
       by_cases hz0 : z = 0
       ·subst hz0
        have Hr : Hid (rRead l k = (⟨x0, x2, 256 * x3 + x4, (l.drop 6).take u⟩, 0)) := by show _ = _; rw [hR]; rfl
        have Hlu : Hid (((l.drop 6).take u).length = u) := by
         show _ = _
         have := Hl.out
         rw [List.length_take, List.length_drop]
         omega
        clear hR hT hz hsv hown
        go_wp2
        ((try simp only [Exit.inBlock, Exit.then]); refine bodyPost_ret (v := ?_) ?resultOf rfl ?_; case resultOf => (rw [results_cell_tmp rfl]; go_simp; rfl))
        rw [Hr.out]
        refine ⟨_, _, rfl, rfl, ⟨Av, cv, ?_, ?_⟩, ?_⟩
        ·rw [Hlu.out]
        ·rw [Hlu.out]
         refine own_more (base := V.heap.size + 1) ?_ (by omega)
         (repeat (with_reducible (first | assumption | refine own_set ?_ (by simp <;> omega) _ | refine own_alloc ?_ _)))
        ·(repeat (with_reducible (first | assumption | exact Below.refl _ _ | refine Below.setCell ?_ (by simp <;> omega) _ | refine Below.alloc ?_ (by simp <;> omega) _ | refine Below.drew ?_ | refine below_drewN ?_ _)))
       ·have qz : (z != 0) = true := by simpa using hz0
        have Hr : Hid (rRead l k = (rZero, z)) := by show _ = _; rw [hR, if_pos hz0]
        clear hR hT hz hsv hown r0 r1 r2 r3 zr
        go_wp2_with fail
        refine (bad_w _ _).mono ?_
        rintro e wb ⟨rfl, heb⟩
        have heb' : Ext w wb := ext_trans (by (repeat (with_reducible (first | assumption | exact Below.refl _ _ | refine Below.setCell ?_ (by simp <;> omega) _ | refine Below.alloc ?_ (by simp <;> omega) _ | refine Below.drew ?_ | refine below_drewN ?_ _)))) heb
        have bB : Box wb w.heap.size 51 #[.int .i64 0, .int .i64 0, .int .i64 0, .slice none 0 0] := by
         refine Box.ext ?_ heb
         first | exact bR | exact Box.new _ _ _ rfl
        have t0 := bB.cell 0 rfl
        have t1 := bB.cell 1 rfl
        have t2 := bB.cell 2 rfl
        have t3 := bB.cell 3 rfl
        have tz := bB.free
        go_wp2
        ((try simp only [Exit.inBlock, Exit.then]); refine bodyPost_ret (v := ?_) ?resultOf rfl ?_; case resultOf => (rw [results_cell_tmp rfl]; go_simp; rfl))
        rw [Hr.out]
        refine ⟨_, _, rfl, rfl, own_zero _ _, ?_⟩
        (repeat (with_reducible (first | assumption | exact Below.refl _ _ | refine Below.setCell ?_ (by simp <;> omega) _ | refine Below.alloc ?_ (by simp <;> omega) _ | refine Below.drew ?_ | refine below_drewN ?_ _)))
    ·have Hr := Lib.hid (show rRead l k = (rZero, 4) by unfold rRead; rw [if_neg (by have := Hl.out; omega), if_neg (by rw [Hs.out]; simp), if_neg (by rw [← X1.out, hk]; simp), if_pos (by have := X5.out; omega)])
     have q2 : decide ((8 : Int) < (u : Int)) = true := by simp; omega
     go_wp2_with fail
     refine (bad_w _ _).mono ?_
     rintro e wb ⟨rfl, heb⟩
     have heb' : Ext w wb := ext_trans (by (repeat (with_reducible (first | assumption | exact Below.refl _ _ | refine Below.setCell ?_ (by simp <;> omega) _ | refine Below.alloc ?_ (by simp <;> omega) _ | refine Below.drew ?_ | refine below_drewN ?_ _)))) heb
     have bB : Box wb w.heap.size 51 #[.int .i64 0, .int .i64 0, .int .i64 0, .slice none 0 0] := by
      refine Box.ext ?_ heb
      first | exact bR | exact Box.new _ _ _ rfl
     have t0 := bB.cell 0 rfl
     have t1 := bB.cell 1 rfl
     have t2 := bB.cell 2 rfl
     have t3 := bB.cell 3 rfl
     have tz := bB.free
     go_wp2
     ((try simp only [Exit.inBlock, Exit.then]); refine bodyPost_ret (v := ?_) ?resultOf rfl ?_; case resultOf => (rw [results_cell_tmp rfl]; go_simp; rfl))
     rw [Hr.out]
     refine ⟨_, _, rfl, rfl, own_zero _ _, ?_⟩
     (repeat (with_reducible (first | assumption | exact Below.refl _ _ | refine Below.setCell ?_ (by simp <;> omega) _ | refine Below.alloc ?_ (by simp <;> omega) _ | refine Below.drew ?_ | refine below_drewN ?_ _)))
   ·have Hr := Lib.hid (show rRead l k = (rZero, 8) by unfold rRead; rw [if_neg (by have := Hl.out; omega), if_neg (by rw [Hs.out]; simp), if_pos (by rw [← X1.out]; exact hk)])
    have q1 : (x1 != k) = true := by simpa using hk
    go_wp2_with fail
    refine (bad_w _ _).mono ?_
    rintro e wb ⟨rfl, heb⟩
    have heb' : Ext w wb := ext_trans (by (repeat (with_reducible (first | assumption | exact Below.refl _ _ | refine Below.setCell ?_ (by simp <;> omega) _ | refine Below.alloc ?_ (by simp <;> omega) _ | refine Below.drew ?_ | refine below_drewN ?_ _)))) heb
    have bB : Box wb w.heap.size 51 #[.int .i64 0, .int .i64 0, .int .i64 0, .slice none 0 0] := by
     refine Box.ext ?_ heb
     first | exact bR | exact Box.new _ _ _ rfl
    have t0 := bB.cell 0 rfl
    have t1 := bB.cell 1 rfl
    have t2 := bB.cell 2 rfl
    have t3 := bB.cell 3 rfl
    have tz := bB.free
    go_wp2
    ((try simp only [Exit.inBlock, Exit.then]); refine bodyPost_ret (v := ?_) ?resultOf rfl ?_; case resultOf => (rw [results_cell_tmp rfl]; go_simp; rfl))
    rw [Hr.out]
    refine ⟨_, _, rfl, rfl, own_zero _ _, ?_⟩
    (repeat (with_reducible (first | assumption | exact Below.refl _ _ | refine Below.setCell ?_ (by simp <;> omega) _ | refine Below.alloc ?_ (by simp <;> omega) _ | refine Below.drew ?_ | refine below_drewN ?_ _)))
 ·have q1 : ((n : Int) != 16) = true := by rw [bne_iff_ne]; omega
  have Hr := Lib.hid (show rRead l k = (rZero, 2) by unfold rRead; rw [if_pos (by omega)])
  go_enter Tryz.func112, Tryz.ntmps112
  go_wp2_with fail
  refine (bad_w _ _).mono ?_
  rintro e wb ⟨rfl, heb⟩
  have heb' : Ext w wb := ext_trans (by (repeat (with_reducible (first | assumption | exact Below.refl _ _ | refine Below.setCell ?_ (by simp <;> omega) _ | refine Below.alloc ?_ (by simp <;> omega) _ | refine Below.drew ?_ | refine below_drewN ?_ _)))) heb
  have bB : Box wb w.heap.size 51 #[.int .i64 0, .int .i64 0, .int .i64 0, .slice none 0 0] := by
   refine Box.ext ?_ heb
   first | exact bR | exact Box.new _ _ _ rfl
  have t0 := bB.cell 0 rfl
  have t1 := bB.cell 1 rfl
  have t2 := bB.cell 2 rfl
  have t3 := bB.cell 3 rfl
  have tz := bB.free
  go_wp2
  ((try simp only [Exit.inBlock, Exit.then]); refine bodyPost_ret (v := ?_) ?resultOf rfl ?_; case resultOf => (rw [results_cell_tmp rfl]; go_simp; rfl))
  rw [Hr.out]
  refine ⟨_, _, rfl, rfl, own_zero _ _, ?_⟩
  (repeat (with_reducible (first | assumption | exact Below.refl _ _ | refine Below.setCell ?_ (by simp <;> omega) _ | refine Below.alloc ?_ (by simp <;> omega) _ | refine Below.drew ?_ | refine below_drewN ?_ _)))
end Go.Proofs.YtmcgbdbhpnplmaaGreat
/- Walks: a record's bytes, the document's. -/
namespace Go.Proofs.YtmcgbdbhpnplmaaGreat
open Go Go.RowKit
theorem made1 (z : Value) (n : Nat) : madeCells #[z] n = (List.replicate n z).toArray := by
 apply Array.ext (by simp [madeCells])
 intro i h1 h2
 simp [madeCells, Nat.mod_one]
def rowL (r : Rec) (k : Int) (j : Nat) : List UInt8 := [b8 r.kind, b8 k, b8 r.key] ++ sTwo r.ver ++ [b8 r.data.length] ++ r.data.take j ++ List.replicate (8 - j) 0
theorem rowL_six (r : Rec) (k : Int) : ([b8 r.kind, b8 k, b8 r.key] ++ sTwo r.ver ++ [b8 r.data.length]).length = 6 := rfl
theorem rowL_length (r : Rec) (k : Int) (j : Nat) (h : j ≤ r.data.length) (h8 : r.data.length ≤ 8) : (rowL r k j).length = 14 := by
 unfold rowL
 rw [List.length_append, List.length_append, rowL_six, List.length_take, List.length_replicate]
 omega
theorem rowL_at (r : Rec) (k : Int) (j : Nat) (h : j < r.data.length) (h8 : r.data.length ≤ 8) : (u8s (rowL r k j)).toArray[6 + j]? = some (.int .u8 0) := by
 rw [List.getElem?_toArray, u8s_at]
 unfold rowL
 rw [List.getElem?_append_right (by rw [List.length_append, rowL_six, List.length_take]; omega), List.length_append, rowL_six, List.length_take, Nat.min_eq_left (by omega), Nat.sub_self, List.getElem?_replicate, if_pos (by omega)]
 rfl
theorem rowL_set (r : Rec) (k : Int) (j : Nat) (x : Int) (h : j < r.data.length) (h8 : r.data.length ≤ 8) (hx : x = ((r.data.getD j 0).toNat : Int)) :
  (u8s (rowL r k j)).toArray.setIfInBounds (6 + j) (.int .u8 x) = (u8s (rowL r k (j + 1))).toArray := by
 subst hx
 rw [List.setIfInBounds_toArray]
 congr 1
 unfold rowL
 rw [List.take_succ_eq_append_getElem h, show 8 - j = (8 - (j + 1)) + 1 by omega, List.replicate_succ]
 simp only [u8s_append]
 rw [List.set_append_right _ _ (by simp [u8s, sTwo]; omega)]
 rw [show 6 + j - (u8s [b8 r.kind, b8 k, b8 r.key] ++ u8s (sTwo r.ver) ++ u8s [b8 r.data.length] ++ u8s (r.data.take j)).length = 0 by simp [u8s, sTwo]; omega]
 simp [u8s, u8v, List.getD_eq_getElem?_getD, List.getElem?_eq_getElem h]
theorem rowL_body (r : Rec) (k : Int) : rowL r k r.data.length = rBody r k := by
 unfold rowL rBody
 rw [List.take_length]
theorem rowL_zero (r : Rec) (k : Int) (h0 : 0 ≤ r.ver) (h1 : r.ver < 65536) (h8 : r.data.length ≤ 8) :
  ((((((madeCells #[.int .u8 0] 14).setIfInBounds 0 (.int .u8 (r.kind % 256))).setIfInBounds 1 (.int .u8 (k % 256))).setIfInBounds 2 (.int .u8 (r.key % 256))).setIfInBounds 3 (.int .u8 (r.ver / 256))).setIfInBounds 4 (.int .u8 (r.ver % 256))).setIfInBounds 5 (.int .u8 (r.data.length : Int))
   = (u8s (rowL r k 0)).toArray := by
 have e1 : u8s [b8 r.kind, b8 k, b8 r.key] = [.int .u8 (r.kind % 256), .int .u8 (k % 256), .int .u8 (r.key % 256)] := by simp [u8s, b8v]
 have e2 : u8s [b8 (r.data.length : Int)] = [.int .u8 (r.data.length : Int)] := by simp [u8s, b8v]; omega
 unfold rowL
 have e3 := made1 (.int .u8 0) 14
 simp only [u8s_append, two8v _ h0 h1, e1, e2, e3, List.take_zero]
 simp [u8s, u8v, List.replicate]
set_option maxRecDepth 100000 in
set_option maxHeartbeats 2000000 in
theorem refBytes_w {A : Option Addr} {n c B : Nat} {r : Rec} {k : Int} (w : World) (h : By w B A n c r.data) (hB : B ≤ w.heap.size) (hn : n ≤ 8) (h0 : 0 ≤ r.ver) (h1 : r.ver < 65536) :
  Calls Tryz.prog 87 #[.agg #[.int .i64 r.kind, .int .i64 r.key, .int .i64 r.ver, .slice A n c], .int .i64 k] w fun e w' => ∃ v, e = .returned v ∧ w'.ownsRow w.heap.size 5 1 v 16 (u8s (rBytes r k)) ∧ Ext w w' := by
 have hl := h.len
 subst hl
 have q1 : (r.data.length : Int) % 256 = (r.data.length : Int) := by omega
 have hmk : ∀ w, (Instr.makeSlice 23 (.int .i64 14) (.int .i64 14)).run Tryz.prog w = .ok (.slice (some ⟨w.heap.size, 0, none⟩) 14 14) (w.alloc (.cells (madeCells #[.int .u8 0] 14) 5)) :=
  fun w => run_make_row' 23 5 (.int .u8 0) 1 Tryz.underlying23 info_u8 rfl .i64 .i64 14 (by omega) (by omega) w
 go_enter Tryz.func87, Tryz.ntmps87
 go_wp2_with fail
 obtain ⟨W, hW⟩ : ∃ W, W = (w.alloc (.cells #[.int .i64 r.kind, .int .i64 r.key, .int .i64 r.ver, .slice A r.data.length c] 51)).alloc (.cells (madeCells #[.int .u8 0] 14) 5) := ⟨_, rfl⟩
 rw [← hW]
 have bx : Box W w.heap.size 51 #[.int .i64 r.kind, .int .i64 r.key, .int .i64 r.ver, .slice A r.data.length c] := by rw [hW]; exact (Box.new w _ _ rfl).alloc _
 have he : Ext w W := by rw [hW]; exact ext_trans (ext_alloc _ _) (ext_alloc _ _)
 have hW2 : W.heap.size = w.heap.size + 1 + 1 := by rw [hW]; simp
 have by_ : Box W (w.heap.size + 1) 5 (List.replicate 14 (.int .u8 0)).toArray := by
  rw [hW, made1]
  exact Box.new _ _ _ (size_alloc _ _).symm
 clear hW
 have x0 := bx.cell 0 rfl
 have x1 := bx.cell 1 rfl
 have x2 := bx.cell 2 rfl
 have x3 := bx.cell 3 rfl
 refine wp_region_below (w.heap.size + 1) 38 [0, 1, 2, 3, 4, 5, 6, 7, 8, 9, 10, 11, 12, 13, 14, 15, 16, 17, 18, 19, 20, 21, 22, 23, 24, 25, 26, 28, 30, 32, 34, 36] false rfl (by kernel_rfl) (by kernel_rfl) ?_
 obtain ⟨D, hD⟩ : ∃ D, D = W.drew := ⟨_, rfl⟩
 rw [← hD]
 have bxd : Box D w.heap.size 51 #[.int .i64 r.kind, .int .i64 r.key, .int .i64 r.ver, .slice A r.data.length c] := by rw [hD]; exact bx
 have by_ : Box D (w.heap.size + 1) 5 (List.replicate 14 (.int .u8 0)).toArray := by rw [hD]; exact by_
 have hdD : Below (w.heap.size + 1) W D := by rw [hD]; exact (Below.refl _ _).drew
 clear hD
 have y0 := by_.cell 0 (v := .int .u8 0) rfl
 have y1 := by_.cell 1 (v := .int .u8 0) rfl
 have y2 := by_.cell 2 (v := .int .u8 0) rfl
 have y3 := by_.cell 3 (v := .int .u8 0) rfl
 have y4 := by_.cell 4 (v := .int .u8 0) rfl
 have y5 := by_.cell 5 (v := .int .u8 0) rfl
 have zy := by_.free
 apply mixF 0 (by kernel_rfl) (by rfl) (by rfl)
 ·(intro w' hx; go_simp <;> with_reducible rfl)
 simp only [pA, pB, pC, pD]
 apply mixF 1 (by kernel_rfl) (by rfl) (by rfl)
 ·(intro w' hx; go_simp <;> with_reducible rfl)
 simp only [pA, pB, pC, pD]
 apply mixF 2 (by kernel_rfl) (by rfl) (by rfl)
 ·(intro w' hx; go_simp <;> with_reducible rfl)
 simp only [pA, pB, pC, pD]
 apply mixF 3 (by kernel_rfl) (by rfl) (by rfl)
 ·(intro w' hx; go_simp <;> with_reducible rfl)
 simp only [pA, pB, pC, pD]
 apply mixF 4 (by kernel_rfl) (by rfl) (by rfl)
 ·(intro w' hx; go_simp <;> with_reducible rfl)
 simp only [pA, pB, pC, pD]
 apply mixF 5 (by kernel_rfl) (by rfl) (by rfl)
 ·(intro w' hx; go_simp <;> with_reducible rfl)
 simp only [pA, pB, pC, pD]
 apply mixF 6 (by kernel_rfl) (by rfl) (by rfl)
 ·(intro w' hx; go_simp <;> with_reducible rfl)
 simp only [pA, pB, pC, pD]
 apply mixF 7 (by kernel_rfl) (by rfl) (by rfl)
 ·(intro w' hx; have q := (bxd.below hx (by omega)).cell 0 rfl; go_simp <;> with_reducible rfl)
 simp only [pA, pB, pC, pD]
 apply mixF 8 (by kernel_rfl) (by rfl) (by rfl)
 ·(intro w' hx; go_simp <;> with_reducible rfl)
 simp only [pA, pB, pC, pD]
 apply mixF 9 (by kernel_rfl) (by rfl) (by rfl)
 ·(intro w' hx; go_simp <;> with_reducible rfl)
 simp only [pA, pB, pC, pD]
 apply mixF 10 (by kernel_rfl) (by rfl) (by rfl)
 ·(intro w' hx; go_simp <;> with_reducible rfl)
 simp only [pA, pB, pC, pD]
 apply mixF 11 (by kernel_rfl) (by rfl) (by rfl)
 ·(intro w' hx; go_simp <;> with_reducible rfl)
 simp only [pA, pB, pC, pD]
 apply mixF 12 (by kernel_rfl) (by rfl) (by rfl)
 ·(intro w' hx; have q := (bxd.below hx (by omega)).cell 1 rfl; go_simp <;> with_reducible rfl)
 simp only [pA, pB, pC, pD]
 apply mixF 13 (by kernel_rfl) (by rfl) (by rfl)
 ·(intro w' hx; go_simp <;> with_reducible rfl)
 simp only [pA, pB, pC, pD]
 apply mixF 14 (by kernel_rfl) (by rfl) (by rfl)
 ·(intro w' hx; go_simp <;> with_reducible rfl)
 simp only [pA, pB, pC, pD]
 apply mixF 15 (by kernel_rfl) (by rfl) (by rfl)
 ·(intro w' hx; have q := (bxd.below hx (by omega)).cell 2 rfl; go_simp <;> with_reducible rfl)
 simp only [pA, pB, pC, pD]
 apply mixF 16 (by kernel_rfl) (by rfl) (by rfl)
 ·(intro w' hx; go_simp <;> with_reducible rfl)
 simp only [pA, pB, pC, pD]
 apply mixF 17 (by kernel_rfl) (by rfl) (by rfl)
 ·(intro w' hx; go_simp <;> with_reducible rfl)
 simp only [pA, pB, pC, pD]
 apply mixF 18 (by kernel_rfl) (by rfl) (by rfl)
 ·(intro w' hx; go_simp <;> with_reducible rfl)
 simp only [pA, pB, pC, pD]
 apply mixF 19 (by kernel_rfl) (by rfl) (by rfl)
 ·(intro w' hx; have q := (bxd.below hx (by omega)).cell 2 rfl; go_simp <;> with_reducible rfl)
 simp only [pA, pB, pC, pD]
 apply mixF 20 (by kernel_rfl) (by rfl) (by rfl)
 ·(intro w' hx; go_simp <;> with_reducible rfl)
 simp only [pA, pB, pC, pD]
 apply mixF 21 (by kernel_rfl) (by rfl) (by rfl)
 ·(intro w' hx; go_simp <;> with_reducible rfl)
 simp only [pA, pB, pC, pD]
 apply mixF 22 (by kernel_rfl) (by rfl) (by rfl)
 ·(intro w' hx; go_simp <;> with_reducible rfl)
 simp only [pA, pB, pC, pD]
 apply mixF 23 (by kernel_rfl) (by rfl) (by rfl)
 ·(intro w' hx; have q := (bxd.below hx (by omega)).cell 3 rfl; go_simp <;> with_reducible rfl)
 simp only [pA, pB, pC, pD]
 apply mixF 24 (by kernel_rfl) (by rfl) (by rfl)
 ·(intro w' hx; go_simp <;> with_reducible rfl)
 simp only [pA, pB, pC, pD]
 apply mixF 25 (by kernel_rfl) (by rfl) (by rfl)
 ·(intro w' hx; go_simp <;> with_reducible rfl)
 simp only [pA, pB, pC, pD]
 apply mixF 26 (by kernel_rfl) (by rfl) (by rfl)
 ·(intro w' hx; go_simp <;> with_reducible rfl)
 simp only [pA, pB, pC, pD]
 refine mixS 27 (by kernel_rfl) (by kernel_rfl) (by rfl) (by rfl) (fun K hK => ?_)
 go_wp2
 refine hK.out _ _ (Below.setCell (Below.refl _ _) (by simp) _) ?_
 clear hK K
 try simp only [pA, pB, pC, pD]
 apply mixF 28 (by kernel_rfl) (by rfl) (by rfl)
 ·(intro w' hx; go_simp <;> with_reducible rfl)
 simp only [pA, pB, pC, pD]
 refine mixS 29 (by kernel_rfl) (by kernel_rfl) (by rfl) (by rfl) (fun K hK => ?_)
 go_wp2
 refine hK.out _ _ (Below.setCell (Below.refl _ _) (by simp) _) ?_
 clear hK K
 try simp only [pA, pB, pC, pD]
 apply mixF 30 (by kernel_rfl) (by rfl) (by rfl)
 ·(intro w' hx; go_simp <;> with_reducible rfl)
 simp only [pA, pB, pC, pD]
 refine mixS 31 (by kernel_rfl) (by kernel_rfl) (by rfl) (by rfl) (fun K hK => ?_)
 go_wp2
 refine hK.out _ _ (Below.setCell (Below.refl _ _) (by simp) _) ?_
 clear hK K
 try simp only [pA, pB, pC, pD]
 apply mixF 32 (by kernel_rfl) (by rfl) (by rfl)
 ·(intro w' hx; go_simp <;> with_reducible rfl)
 simp only [pA, pB, pC, pD]
 refine mixS 33 (by kernel_rfl) (by kernel_rfl) (by rfl) (by rfl) (fun K hK => ?_)
 go_wp2
 refine hK.out _ _ (Below.setCell (Below.refl _ _) (by simp) _) ?_
 clear hK K
 try simp only [pA, pB, pC, pD]
 apply mixF 34 (by kernel_rfl) (by rfl) (by rfl)
 ·(intro w' hx; go_simp <;> with_reducible rfl)
 simp only [pA, pB, pC, pD]
 refine mixS 35 (by kernel_rfl) (by kernel_rfl) (by rfl) (by rfl) (fun K hK => ?_)
 go_wp2
 refine hK.out _ _ (Below.setCell (Below.refl _ _) (by simp) _) ?_
 clear hK K
 try simp only [pA, pB, pC, pD]
 apply mixF 36 (by kernel_rfl) (by rfl) (by rfl)
 ·(intro w' hx; go_simp <;> with_reducible rfl)
 simp only [pA, pB, pC, pD]
 refine mixS 37 (by kernel_rfl) (by kernel_rfl) (by rfl) (by rfl) (fun K hK => ?_)
 go_wp2
 refine hK.out _ _ (Below.setCell (Below.refl _ _) (by simp) _) ?_
 clear hK K
 try simp only [pA, pB, pC, pD]
 refine mixEnd (by kernel_rfl) ?_
 clear x0 x1 x2 x3 y0 y1 y2 y3 y4 y5 zy
 obtain ⟨V, hV⟩ : ∃ V, V = ((((((D.setCell ⟨w.heap.size + 1, 0, none⟩ (.int .u8 (r.kind % 256))).setCell ⟨w.heap.size + 1, 1, none⟩ (.int .u8 (k % 256))).setCell ⟨w.heap.size + 1, 2, none⟩ (.int .u8 (r.key % 256))).setCell ⟨w.heap.size + 1, 3, none⟩ (.int .u8 (r.ver / 256))).setCell ⟨w.heap.size + 1, 4, none⟩ (.int .u8 (r.ver % 256))).setCell ⟨w.heap.size + 1, 5, none⟩ (.int .u8 (r.data.length : Int))) := ⟨_, rfl⟩
 rw [← hV]
 have b2 : Box V (w.heap.size + 1) 5 (u8s (rowL r k 0)).toArray := by
  rw [hV, ← rowL_zero r k h0 h1 hn, made1]
  exact (((((by_.set 0 _).set 1 _).set 2 _).set 3 _).set 4 _).set 5 _
 have hd : Below (w.heap.size + 1) W V := by
  rw [hV]
  (repeat (with_reducible (first | assumption | exact Below.refl _ _ | refine Below.setCell ?_ (by simp <;> omega) _ | refine Below.alloc ?_ (by simp <;> omega) _ | refine Below.drew ?_ | refine below_drewN ?_ _)))
 have x3 := (bx.below hd (by omega)).cell 3 rfl
 clear hV by_
 go_wp2_with fail
 go_loopw [44] (fun i wr => ∃ j : Nat, j ≤ r.data.length ∧ i = .int .i64 j ∧ Box wr (w.heap.size + 1) 5 (u8s (rowL r k j)).toArray ∧ Below (w.heap.size + 1) W wr) (fun i _ => r.data.length - (intOf i).toNat)
 case atStart => exact ⟨0, Nat.zero_le _, rfl, b2, hd⟩
 case round =>
  obtain ⟨j, hj, rfl, bj, hdj⟩ := hrel
  by_cases hlt : j < r.data.length
  ·obtain ⟨b, o, x, rfl, _, hx, hx0, hx1, Hx⟩ := By.byte (l := r.data) (Sl.below h ((he.mono hB).trans (hdj.mono (by omega)))) hlt
   have i0 : (0 : Int) ≤ (j : Int) := by omega
   have i1 : (j : Int) < (r.data.length : Int) := by omega
   have i2 : (6 : Int) + (j : Int) < 14 := by omega
   have i3 : (0 : Int) ≤ 6 + (j : Int) := by omega
   have i4 : IntKind.i64.wrap (6 + (j : Int)) = 6 + (j : Int) := IntWalk.i64_in _ (by omega)
   have i5 : ((6 : Int) + (j : Int)).toNat = 6 + j := by omega
   have y := bj.cell (6 + j) (rowL_at r k j hlt hn)
   have z := bj.free (6 + j)
   go_wp2_with fail
   go_roundw
   case rel =>
    refine ⟨j + 1, by omega, by go_num, ?_, hdj.setCell (by simp) _⟩
    rw [← rowL_set r k j x hlt hn Hx.out]
    exact bj.set _ _
   case measure => simp [intOf]; omega
  ·have hjn : j = r.data.length := by omega
   subst hjn
   rw [rowL_body] at bj
   have hlb : (rBody r k).length = 14 := by rw [← rowL_body]; exact rowL_length r k _ (Nat.le_refl _) hn
   have hown := own_box (base := w.heap.size + 1) (n := 14) (size := 1) bj (Nat.le_refl _) (by rw [u8s_length, hlb]) (by unfold maxLen; omega)
   go_wp2_with fail
   have hzr := hdj.size
   refine (refSeal_w _ _ _ _ _ _ (by_own hown) (Nat.le_refl _) (by rw [blim_def]; omega)).mono ?_
   rintro e w8 ⟨v8, rfl, hown8, he8⟩
   go_wp2
   go_ret
   exact ⟨v8, rfl, own_more hown8 (by omega), he.trans ((hdj.mono (by omega)).trans (he8.mono (by omega)))⟩
end Go.Proofs.YtmcgbdbhpnplmaaGreat
/- Walks: disk.Put. -/
namespace Go.Proofs.YtmcgbdbhpnplmaaGreat
open Go Go.RowKit
set_option maxRecDepth 100000 in
set_option maxHeartbeats 4000000 in
theorem dskPut_v {T : List TypeId} {base base' : Nat} {v u : Value} {d : Dsk} {k : Int} {l : List UInt8} {w : World} (h : DskV T w base v d) (hk : DskOk d) (hf : ByT w base' u l) :
  Calls Tryz.prog 96 #[v, .int .i64 k, u] w fun e w' => ∃ v' q, e = .returned (.tuple #[v', .int .i64 q]) ∧ q = (dPut d k l).2 ∧ OwnD w w' v' (dPut d k l).1 ∧ Ext w w' := by
 have Hk := Lib.hid hk
 obtain ⟨F, c2, rfl, hf1⟩ := hf.by_
 obtain ⟨A, c, E, m, rfl, h0⟩ := h.at_
 clear h hf
 obtain ⟨n2, hN2⟩ : ∃ n, n = l.length := ⟨_, rfl⟩
 obtain ⟨n, hN⟩ : ∃ n, n = d.blocks.length := ⟨_, rfl⟩
 obtain ⟨e, hE⟩ : ∃ n, n = d.late.length := ⟨_, rfl⟩
 rw [← hN2] at hf1 ⊢
 rw [← hN, ← hE] at h0 ⊢
 have HN := Lib.hid hN
 have HN2 := Lib.hid hN2
 have HE := Lib.hid hE
 have he4 : e ≤ 4096 := by have := hk.late; omega
 have hp : ∀ v, dPut d k l = v → Hid (dPut d k l = v) := fun _ h => h
 clear hN hN2 hE hk
 go_enter Tryz.func96, Tryz.ntmps96
 go_wp2_with fail
 obtain ⟨W, hW⟩ : ∃ W, W = (w.alloc (.cells #[.slice A n c, .slice E e m] 30)).alloc (.cells #[.slice none 0 0, .slice none 0 0] 30) := ⟨_, rfl⟩
 rw [← hW]
 have bp : Box W w.heap.size 30 #[.slice A n c, .slice E e m] := by rw [hW]; exact (Box.new w _ _ rfl).alloc _
 have bR : Box W (w.heap.size + 1) 30 #[.slice none 0 0, .slice none 0 0] := by rw [hW]; exact Box.new _ _ _ (size_alloc _ _).symm
 have hwW : Ext w W := by rw [hW]; exact ext_trans (ext_alloc _ _) (ext_alloc _ _)
 have hzW : W.heap.size = w.heap.size + 2 := by rw [hW]; simp
 clear hW
 refine (dskOwn_v (T := []) (DskV.of_at (h0.below (hwW.mono (Nat.le_refl _))) (Nat.le_refl _) (by omega)) Hk.out).mono ?_
 rintro e0 w1 ⟨_, rfl, ⟨vb, vl, rfl, hob, hol⟩, he1⟩
 obtain ⟨A1, c1, hvb⟩ := hob.shape
 obtain ⟨A2, c3, hvl⟩ := hol.shape
 rw [← HN.out] at hvb
 rw [← HE.out] at hvl
 subst hvb hvl
 have hz1 := he1.size
 have hlt0 : w.heap.size < w1.heap.size := by omega
 have hlt1 : w.heap.size + 1 < w1.heap.size := by omega
 have bp1 := bp.ext he1
 have bR1 := bR.ext he1
 obtain ⟨m0, m1⟩ := bp1.cells2
 obtain ⟨r0, r1⟩ := bR1.cells2
 have zR := bR1.free
 have kR := bR1.kd
 have hww : Ext w w1 := ext_trans hwW he1
 clear bp bR
 by_cases hlo : k < 0 ∨ (n : Int) ≤ k
 ·have HP := hp (d, 3) (by unfold dPut; rw [if_pos (by rw [← HN.out]; exact hlo)])
  have hk1 : k < 0 ∨ (¬ k < 0 ∧ (n : Int) ≤ k) := by omega
  rcases hk1 with hk1 | ⟨hk1, hk2⟩
  ·have q1 : decide (k < 0) = true := by simpa using hk1
   clear hlo hk1
   go_wp2
   ((try simp only [Exit.inBlock, Exit.then]); refine bodyPost_ret (v := ?_) ?resultOf rfl ?_; case resultOf => (rw [results_cell_tmp rfl]; go_simp; rfl))
   rw [HP.out]
   refine ⟨_, _, rfl, rfl, ⟨_, _, rfl, (hob.kB (by (repeat (with_reducible (first | assumption | exact Kept.refl _ _ _ | (apply Kept.setK; rotate_left; (repeat (first | assumption | apply Kd.set | apply Kd.alloc | apply Kd.drew)); decide; omega) | refine Kept.allocK ?_ _ | refine Kept.drewK ?_))))).more (by omega) (Nat.le_refl _), (hol.kW (by (repeat (with_reducible (first | assumption | exact Kept.refl _ _ _ | (apply Kept.setK; rotate_left; (repeat (first | assumption | apply Kd.set | apply Kd.alloc | apply Kd.drew)); decide; omega) | refine Kept.allocK ?_ _ | refine Kept.drewK ?_))))).more (by omega) (Nat.le_refl _)⟩, ?_⟩
   (repeat (with_reducible (first | assumption | exact Below.refl _ _ | refine Below.setCell ?_ (by simp <;> omega) _ | refine Below.alloc ?_ (by simp <;> omega) _ | refine Below.drew ?_ | refine below_drewN ?_ _)))
  ·have q1 : decide (k < 0) = false := by simpa using hk1
   have q2 : decide ((n : Int) ≤ k) = true := by simpa using hk2
   clear hlo hk1
   go_wp2
   ((try simp only [Exit.inBlock, Exit.then]); refine bodyPost_ret (v := ?_) ?resultOf rfl ?_; case resultOf => (rw [results_cell_tmp rfl]; go_simp; rfl))
   rw [HP.out]
   refine ⟨_, _, rfl, rfl, ⟨_, _, rfl, (hob.kB (by (repeat (with_reducible (first | assumption | exact Kept.refl _ _ _ | (apply Kept.setK; rotate_left; (repeat (first | assumption | apply Kd.set | apply Kd.alloc | apply Kd.drew)); decide; omega) | refine Kept.allocK ?_ _ | refine Kept.drewK ?_))))).more (by omega) (Nat.le_refl _), (hol.kW (by (repeat (with_reducible (first | assumption | exact Kept.refl _ _ _ | (apply Kept.setK; rotate_left; (repeat (first | assumption | apply Kd.set | apply Kd.alloc | apply Kd.drew)); decide; omega) | refine Kept.allocK ?_ _ | refine Kept.drewK ?_))))).more (by omega) (Nat.le_refl _)⟩, ?_⟩
   (repeat (with_reducible (first | assumption | exact Below.refl _ _ | refine Below.setCell ?_ (by simp <;> omega) _ | refine Below.alloc ?_ (by simp <;> omega) _ | refine Below.drew ?_ | refine below_drewN ?_ _)))
 ·have q1 : decide (k < 0) = false := by simp; omega
  have q2 : decide ((n : Int) ≤ k) = false := by simp; omega
  by_cases h16 : n2 = 16
  ·have HP := hp (⟨d.blocks, d.late ++ [(k, l)]⟩, 0) (by unfold dPut; rw [if_neg (by rw [← HN.out]; exact hlo), if_neg (by rw [← HN2.out]; simpa using h16)])
   clear hlo
   subst h16
   go_wp2_with fail
   obtain ⟨w2, hw2⟩ : ∃ w2, w2 = w1.alloc (.cells #[.slice A1 n c1, .slice A2 e c3] 30) := ⟨_, rfl⟩
   rw [← hw2]
   have b8_ : Box w2 w1.heap.size 30 #[.slice A1 n c1, .slice A2 e c3] := by rw [hw2]; exact Box.new _ _ _ rfl
   have he2 : Ext w1 w2 := by rw [hw2]; exact ext_alloc _ _
   have hz2 : w2.heap.size = w1.heap.size + 1 := by rw [hw2]; simp
   clear hw2
   refine wp_region_keep W.heap.size [w1.heap.size] 10 [0, 1, 2, 3, 5, 8] true rfl (by kernel_rfl) (by kernel_rfl) ?_
   obtain ⟨D, hD⟩ : ∃ D, D = w2.drew := ⟨_, rfl⟩
   rw [← hD]
   have bD : Box D w1.heap.size 30 #[.slice A1 n c1, .slice A2 e c3] := by rw [hD]; exact b8_
   have hwD : Ext w1 D := by rw [hD]; exact he2.drew
   have hzD : D.heap.size = w1.heap.size + 1 := by rw [hD]; exact hz2
   clear hD he2 b8_ hz2
   have hobD := hob.ext hwD
   have holD := hol.ext hwD
   have hyD : By D w.heap.size F 16 c2 l := Sl.below hf1 (ext_trans hww hwD)
   have bRD := bR1.ext hwD
   apply mixF 0 (by kernel_rfl) (by rfl) (by rfl)
   ·(intro w' hx; go_simp <;> with_reducible rfl)
   simp only [pA, pB, pC, pD]
   apply mixF 1 (by kernel_rfl) (by rfl) (by rfl)
   ·(intro w' hx; have q := (bD.xk hx (by simp)).cell 1 rfl; go_simp <;> with_reducible rfl)
   simp only [pA, pB, pC, pD]
   apply mixF 2 (by kernel_rfl) (by rfl) (by rfl)
   ·(intro w' hx; go_simp <;> with_reducible rfl)
   simp only [pA, pB, pC, pD]
   apply mixF 3 (by kernel_rfl) (by rfl) (by rfl)
   ·(intro w' hx; go_simp <;> with_reducible rfl)
   simp only [pA, pB, pC, pD]
   refine mixS 4 (by kernel_rfl) (by kernel_rfl) (by rfl) (by rfl) (fun K hK => ?_)
   go_wp2_with (go_at_call 101; refine (clone_w _ hyD (by omega) (by rw [blim_def]; omega)).mono ?_; rintro e w3 ⟨v1, rfl, own1, he3⟩; obtain ⟨A3, c4, rfl, hs1⟩ := own_shape own1)
   refine hK.out _ _ (XK.ext he3 (by omega) (by simp; omega)) ?_
   clear hK K
   try simp only [pA, pB, pC, pD]
   have hz3 := he3.size
   apply mixF 5 (by kernel_rfl) (by rfl) (by rfl)
   ·(intro w' hx; go_simp <;> with_reducible rfl)
   simp only [pA, pB, pC, pD]
   refine mixS 6 (by kernel_rfl) (by kernel_rfl) (by rfl) (by rfl) (fun K hK => ?_)
   go_wp2
   refine hK.out _ _ (XK.ext (ext_alloc _ _) (by omega) (by simp; omega)) ?_
   clear hK K
   try simp only [pA, pB, pC, pD]
   obtain ⟨w4, hw4⟩ : ∃ w4, w4 = w3.alloc (.cells #[.int .i64 k, .slice A3 16 c4] 101) := ⟨_, rfl⟩
   rw [← hw4]
   have he4 : Ext w3 w4 := by rw [hw4]; exact ext_alloc _ _
   have hs4 : Sl w4 w4.heap.size 2 (some ⟨w3.heap.size, 0, none⟩) 1 1 [.int .i64 k, .slice A3 16 c4] := by rw [hw4]; exact Sl.new _ _ _ _ 2 1 rfl (by unfold maxLen; omega) (by simp)
   have hz4 := he4.size
   clear hw4
   have hD4 : Ext D w4 := ext_trans he3 he4
   have hol4 := holD.ext hD4
   have hob4 := hobD.ext hD4
   have b84 := bD.ext hD4
   have bR4 := bRD.ext hD4
   have hu4 : ByT w4 0 (.slice A3 16 c4) l := (ByT.of_own own1).kept (T := []) (.ext he4)
   refine mixS 7 (by kernel_rfl) (by kernel_rfl) (by rfl) (by rfl) (fun K hK => ?_)
   refine wpo_wr (.tmp 28) (.tmp 33) rfl rfl hol4 rfl hs4 (y := (k, l)) ⟨_, rfl, hu4⟩ (by rw [lim_def, ← HE.out]; omega) (by omega) (by omega) ?_
   intro v7 w7 own7 hg7 hb7
   obtain ⟨A7, n7, c7, rfl, _, _, _⟩ := own7.form
   have hne := own_ne hol4.choose_spec.2 b84.kd (by decide)
   have hneR := own_ne hol4.choose_spec.2 bR4.kd (by decide)
   have hneB := hob4.kept (T := [23]) (by decide) (Nat.le_refl _) (Kept.app hol4.choose_spec.2 hg7 (by decide) (by omega))
   refine hK.out _ _ (XK.grown hg7 hb7 (by simp; exact ⟨by omega, hne⟩)) ?_
   clear hK K
   try simp only [pA, pB, pC, pD]
   have b87 : Box w7 w1.heap.size 30 _ := (hg7.block _ b84.lt hne).trans b84
   have bR7 : Box w7 (w.heap.size + 1) 30 _ := (hg7.block _ bR4.lt hneR).trans bR4
   have n0 := b87.cell 0 rfl
   have n1 := b87.cell 1 rfl
   have zn := b87.free
   have p0 := bR7.cell 0 rfl
   have p1 := bR7.cell 1 rfl
   have zp := bR7.free
   have k8 := b87.kd
   have kR7 := bR7.kd
   have hx7 : Ext w w7 := (ext_trans hww (ext_trans hwD hD4)).trans (hb7.mono (by omega))
   apply mixF 8 (by kernel_rfl) (by rfl) (by rfl)
   ·(intro w' hx; go_simp <;> with_reducible rfl)
   simp only [pA, pB, pC, pD]
   refine mixLast 9 (by kernel_rfl) (by kernel_rfl) (by kernel_rfl) (by rfl) (by rfl) (fun K hK => ?_)
   have hK' := Lib.hid hK
   clear hK
   go_wp2
   refine hK'.out _ _ ?_
   clear hK' K
   refine NoPanic.normal ?_
   go_wp2
   ((try simp only [Exit.inBlock, Exit.then]); refine bodyPost_ret (v := ?_) ?resultOf rfl ?_; case resultOf => (rw [results_cell_tmp rfl]; go_simp; rfl))
   rw [HP.out]
   refine ⟨_, _, rfl, rfl, ⟨_, _, rfl, (hneB.kB (by (repeat (with_reducible (first | assumption | exact Kept.refl _ _ _ | (apply Kept.setK; rotate_left; (repeat (first | assumption | apply Kd.set | apply Kd.alloc | apply Kd.drew)); decide; omega) | refine Kept.allocK ?_ _ | refine Kept.drewK ?_))))).more (rb' := w.heap.size) (by omega) (Nat.le_refl _), (own7.kW (by (repeat (with_reducible (first | assumption | exact Kept.refl _ _ _ | (apply Kept.setK; rotate_left; (repeat (first | assumption | apply Kd.set | apply Kd.alloc | apply Kd.drew)); decide; omega) | refine Kept.allocK ?_ _ | refine Kept.drewK ?_))))).more (rb' := w.heap.size) (by omega) (Nat.le_refl _)⟩, ?_⟩
   (repeat (with_reducible (first | assumption | exact Below.refl _ _ | refine Below.setCell ?_ (by simp <;> omega) _ | refine Below.alloc ?_ (by simp <;> omega) _ | refine Below.drew ?_ | refine below_drewN ?_ _)))
  ·have q3 : ((n2 : Int) != 16) = true := by rw [bne_iff_ne]; omega
   have HP := hp (d, 2) (by unfold dPut; rw [if_neg (by rw [← HN.out]; exact hlo), if_pos (by rw [← HN2.out]; exact h16)])
   clear hlo h16
   go_wp2
   ((try simp only [Exit.inBlock, Exit.then]); refine bodyPost_ret (v := ?_) ?resultOf rfl ?_; case resultOf => (rw [results_cell_tmp rfl]; go_simp; rfl))
   rw [HP.out]
   refine ⟨_, _, rfl, rfl, ⟨_, _, rfl, (hob.kB (by (repeat (with_reducible (first | assumption | exact Kept.refl _ _ _ | (apply Kept.setK; rotate_left; (repeat (first | assumption | apply Kd.set | apply Kd.alloc | apply Kd.drew)); decide; omega) | refine Kept.allocK ?_ _ | refine Kept.drewK ?_))))).more (by omega) (Nat.le_refl _), (hol.kW (by (repeat (with_reducible (first | assumption | exact Kept.refl _ _ _ | (apply Kept.setK; rotate_left; (repeat (first | assumption | apply Kd.set | apply Kd.alloc | apply Kd.drew)); decide; omega) | refine Kept.allocK ?_ _ | refine Kept.drewK ?_))))).more (by omega) (Nat.le_refl _)⟩, ?_⟩
   (repeat (with_reducible (first | assumption | exact Below.refl _ _ | refine Below.setCell ?_ (by simp <;> omega) _ | refine Below.alloc ?_ (by simp <;> omega) _ | refine Below.drew ?_ | refine below_drewN ?_ _)))
end Go.Proofs.YtmcgbdbhpnplmaaGreat
/- Walks: disk.Get, the document's GetBlock. -/
namespace Go.Proofs.YtmcgbdbhpnplmaaGreat
open Go Go.RowKit
theorem dLast_or (l : List (Int × List UInt8)) (k : Int) (b : List UInt8) : dLast l k b = b ∨ ∃ i, i < l.length ∧ dLast l k b = (l.getD i (0, [])).2 := by
 have : ∀ j, j ≤ l.length → dLast (l.take j) k b = b ∨ ∃ i, i < l.length ∧ dLast (l.take j) k b = (l.getD i (0, [])).2 := by
  intro j
  induction j with
  | zero => intro _; exact .inl rfl
  | succ j ih =>
   intro hj
   rw [dLast_take l j (by omega)]
   split
   ·exact .inr ⟨j, by omega, rfl⟩
   ·exact ih (by omega)
 have h := this l.length (Nat.le_refl _)
 rwa [List.take_length] at h
set_option maxRecDepth 100000 in
set_option maxHeartbeats 4000000 in
theorem dskGet_v {T : List TypeId} {base : Nat} {v : Value} {d : Dsk} {k : Int} {w : World} (h : DskV T w base v d) (hk : DskOk d) :
  Calls Tryz.prog 131 #[v, .int .i64 k] w fun e w' => ∃ v' q, e = .returned (.tuple #[v', .int .i64 q]) ∧ q = (dGet d k).2 ∧ ByT w' 0 v' (dGet d k).1 ∧ Ext w w' := by
 obtain ⟨A, c, E, m, rfl, h0⟩ := h.at_
 clear h
 obtain ⟨n, hN⟩ : ∃ n, n = d.blocks.length := ⟨_, rfl⟩
 obtain ⟨e, hE⟩ : ∃ n, n = d.late.length := ⟨_, rfl⟩
 rw [← hN, ← hE] at h0 ⊢
 have hn : n ≤ 4096 := by have := hk.blocks; omega
 have he4 : e ≤ 4096 := by have := hk.late; omega
 have HN := Lib.hid hN
 have HE := Lib.hid hE
 have Hk := Lib.hid hk
 have hp : ∀ v, dGet d k = v → Hid (dGet d k = v) := fun _ h => h
 clear hN hE hk
 go_enter Tryz.func131, Tryz.ntmps131
 by_cases hlo : k < 0 ∨ (n : Int) ≤ k
 ·have HP := hp ([], 3) (by unfold dGet; rw [if_pos (by rw [← HN.out]; exact hlo)])
  have hk1 : k < 0 ∨ (¬ k < 0 ∧ (n : Int) ≤ k) := by omega
  rcases hk1 with hk1 | ⟨hk1, hk2⟩
  ·have q1 : decide (k < 0) = true := by simpa using hk1
   clear hlo hk1
   go_wp2
   go_ret2
   rw [HP.out]
   exact ⟨_, _, rfl, rfl, ByT.nil _ _, ext_alloc _ _⟩
  ·have q1 : decide (k < 0) = false := by simpa using hk1
   have q2 : decide ((n : Int) ≤ k) = true := by simpa using hk2
   clear hlo hk1
   go_wp2
   go_ret2
   rw [HP.out]
   exact ⟨_, _, rfl, rfl, ByT.nil _ _, ext_alloc _ _⟩
 ·have q1 : decide (k < 0) = false := by simp; omega
  have q2 : decide ((n : Int) ≤ k) = false := by simp; omega
  obtain ⟨j, rfl⟩ : ∃ j : Nat, k = (j : Int) := ⟨k.toNat, by omega⟩
  have hjn : j < n := by omega
  have HP := hp (dLast d.late j (d.blocks.getD j []), 0) (by unfold dGet; rw [if_neg (by rw [← HN.out]; exact hlo)]; rfl)
  have i0 : (0 : Int) ≤ (j : Int) := by omega
  have i1 : (j : Int) < (n : Int) := by omega
  clear hlo hp
  obtain ⟨W, hW⟩ : ∃ W, W = w.alloc (.cells #[.slice A n c, .slice E e m] 30) := ⟨_, rfl⟩
  have bp : Box W w.heap.size 30 #[.slice A n c, .slice E e m] := by rw [hW]; exact Box.new w _ _ rfl
  have hwW : Ext w W := by rw [hW]; exact ext_alloc _ _
  have hW1 := h0.below hwW
  obtain ⟨b, o, A1, n1, c1, rfl, hb, hc1, hy1⟩ := hW1.blocks.at_ hjn
  have hy1 : ByV W w.heap.size (.slice A1 n1 c1) (d.blocks.getD j []) := ⟨_, _, _, rfl, hy1⟩
  have hcc : (w.alloc (.cells #[.slice (some ⟨b, o, none⟩) n c, .slice E e m] 30)).cell? ⟨b, o + j, none⟩ = some (.slice A1 n1 c1) := by rw [← hW]; exact hc1
  go_wp2_with fail
  rw [← hW]
  clear hcc hW
  go_loopw [6, 26] (fun u i wr => ∃ (a : Nat), a ≤ e ∧ i = .int .i64 a ∧ ByV W w.heap.size u (dLast (d.late.take a) j (d.blocks.getD j [])) ∧ Ext W wr) (fun _ i _ => e - (intOf i).toNat)
  case atStart => exact ⟨0, by omega, rfl, by simpa [dLast_nil] using hy1, Below.refl _ _⟩
  case round =>
   obtain ⟨a, ha, rfl, hu, hd⟩ := hrel
   obtain ⟨Au, nu, cu, rfl, hyu⟩ := hu
   by_cases hlt : a < e
   ·obtain ⟨b', o', x, A2, n2, c2, rfl, hb', ck, cd, Hx, hy2⟩ := hW1.late.at_ hlt
    rw [← Nat.add_assoc] at cd
    have ckr := (hd.cell (p := ⟨b', o' + a * 2, none⟩) (show b' < W.heap.size by have := hwW.size; omega)).trans ck
    have cdr := (hd.cell (p := ⟨b', o' + a * 2 + 1, none⟩) (show b' < W.heap.size by have := hwW.size; omega)).trans cd
    have e0 : (0 : Int) ≤ (a : Int) := by omega
    have e1 : (a : Int) < (e : Int) := by omega
    have hst := dLast_take d.late a (by have := HE.out; omega) j (d.blocks.getD j [])
    by_cases hx : x = (j : Int)
    ·have HS := Lib.hid (show dLast (d.late.take (a + 1)) j (d.blocks.getD j []) = (d.late.getD a (0, [])).2 by rw [hst, if_pos (by rw [← Hx.out]; exact hx)])
     have q3 : (x == (j : Int)) = true := by simpa using hx
     clear hst hx
     go_wp2_with fail
     go_roundw
     case rel => exact ⟨a + 1, by omega, by go_num, by rw [HS.out]; exact ⟨_, _, _, rfl, hy2⟩, ext_trans hd (ext_alloc _ _)⟩
     case measure => simp [intOf]; omega
    ·have HS := Lib.hid (show dLast (d.late.take (a + 1)) j (d.blocks.getD j []) = dLast (d.late.take a) j (d.blocks.getD j []) by rw [hst, if_neg (by rw [← Hx.out]; exact hx)])
     have q3 : (x == (j : Int)) = false := by simpa using hx
     clear hst hx
     go_wp2_with fail
     go_roundw
     case rel => exact ⟨a + 1, by omega, by go_num, by rw [HS.out]; exact ⟨_, _, _, rfl, hyu⟩, ext_trans hd (ext_alloc _ _)⟩
     case measure => simp [intOf]; omega
   ·have hae : a = e := by omega
    subst hae
    rw [List.take_of_length_le (by have := HE.out; omega)] at hyu
    have hl4 : (dLast d.late j (d.blocks.getD j [])).length ≤ 4096 := by
     rcases dLast_or d.late j (d.blocks.getD j []) with e0 | ⟨i, _, e0⟩
     ·rw [e0]; exact Hk.out.block j
     ·rw [e0]; exact Hk.out.write i
    have hzW := hwW.size
    have hzr := hd.size
    have hnu : nu ≤ 4096 := by have := By.len hyu; omega
    have hyr := Sl.below hyu (hd.mono (show w.heap.size ≤ W.heap.size by omega))
    go_wp2_with fail
    refine (clone_w _ hyr (by omega) (by rw [blim_def]; omega)).mono ?_
    rintro e9 w9 ⟨v9, rfl, own9, he9⟩
    obtain ⟨A9, c9, rfl, _⟩ := own_shape own9
    go_wp2
    go_ret2
    rw [HP.out]
    exact ⟨_, _, rfl, rfl, ByT.of_own own9, ext_trans hwW (ext_trans hd he9)⟩
end Go.Proofs.YtmcgbdbhpnplmaaGreat
/- Walks: the document's GetBlock. -/
namespace Go.Proofs.YtmcgbdbhpnplmaaGreat
open Go Go.RowKit
set_option maxRecDepth 100000 in
set_option maxHeartbeats 4000000 in
theorem refGet_v {T : List TypeId} {base : Nat} {v : Value} {d : Dsk} {k : Int} {w : World} (h : DskV T w base v d) (hk : DskOk d) :
  Calls Tryz.prog 106 #[v, .int .i64 k] w fun e w' => ∃ v' q, e = .returned (.tuple #[v', .int .i64 q]) ∧ q = (dGet d k).2 ∧ ByT w' base v' (dGet d k).1 ∧ Ext w w' := by
 obtain ⟨A, n, c, E, e, m, rfl, HN, HE, hb, hl, hnc, hem⟩ := h.form
 have hn : n ≤ 4096 := by have := hk.blocks; have := HN.out; omega
 have he4 : e ≤ 4096 := by have := hk.late; have := HE.out; omega
 have hp : ∀ v, dGet d k = v → Hid (dGet d k = v) := fun _ h => h
 clear h hk
 go_enter Tryz.func106, Tryz.ntmps106
 by_cases hlo : k < 0 ∨ (n : Int) ≤ k
 ·have HP := hp ([], 3) (by unfold dGet; rw [if_pos (by rw [← HN.out]; exact hlo)])
  have hk1 : k < 0 ∨ (¬ k < 0 ∧ (n : Int) ≤ k) := by omega
  rcases hk1 with hk1 | ⟨hk1, hk2⟩
  ·have q1 : decide (k < 0) = true := by simpa using hk1
   clear hlo hk1
   go_wp2
   go_ret2
   rw [HP.out]
   exact ⟨_, _, rfl, rfl, ByT.nil _ _, ext_alloc _ _⟩
  ·have q1 : decide (k < 0) = false := by simpa using hk1
   have q2 : decide ((n : Int) ≤ k) = true := by simpa using hk2
   clear hlo hk1
   go_wp2
   go_ret2
   rw [HP.out]
   exact ⟨_, _, rfl, rfl, ByT.nil _ _, ext_alloc _ _⟩
 ·have q1 : decide (k < 0) = false := by simp; omega
  have q2 : decide ((n : Int) ≤ k) = false := by simp; omega
  obtain ⟨j, rfl⟩ : ∃ j : Nat, k = (j : Int) := ⟨k.toNat, by omega⟩
  have hjn : j < n := by omega
  have HP := hp (dLast d.late j (d.blocks.getD j []), 0) (by unfold dGet; rw [if_neg (by rw [← HN.out]; exact hlo)]; rfl)
  have i0 : (0 : Int) ≤ (j : Int) := by omega
  have i1 : (j : Int) < (n : Int) := by omega
  clear hlo hp
  go_wp2_with fail
  obtain ⟨W, hW⟩ : ∃ W, W = w.alloc (.cells #[.slice A n c, .slice E e m] 30) := ⟨_, rfl⟩
  rw [← hW]
  have bp : Box W w.heap.size 30 #[.slice A n c, .slice E e m] := by rw [hW]; exact Box.new w _ _ rfl
  have hwW : Ext w W := by rw [hW]; exact ext_alloc _ _
  clear hW
  have hb := hb.ext hwW
  have hl := hl.ext hwW
  obtain ⟨m0, m1⟩ := bp.cells2
  go_loop [6] (fun i => ∃ (a : Nat), a ≤ e ∧ i = .int .i64 ((a : Int) - 1) ∧ Hid (dLast d.late j (d.blocks.getD j []) = dLast (d.late.take a) j (d.blocks.getD j []))) (fun i => (intOf i + 1).toNat)
  case atStart => exact ⟨e, by omega, rfl, (show _ = _ by rw [List.take_of_length_le (by have := HE.out; omega)])⟩
  case round =>
   obtain ⟨a, ha, rfl, HS⟩ := hrel
   by_cases hlt : 0 < a
   ·obtain ⟨a, rfl⟩ : ∃ a', a = a' + 1 := ⟨a - 1, by omega⟩
    have ea : (((a + 1 : Nat) : Int) - 1) = (a : Int) := by omega
    rw [ea]
    obtain ⟨b', o', x, u2, rfl, hb', ck, cd, Hx, hy2⟩ := hl.wr_at (i := a) (by omega)
    have e0 : (0 : Int) ≤ (a : Int) := by omega
    have e1 : (a : Int) < (e : Int) := by omega
    have hst := dLast_take d.late a (by have := HE.out; omega) j (d.blocks.getD j [])
    by_cases hx : x = (j : Int)
    ·have HS2 := Lib.hid (show dLast d.late j (d.blocks.getD j []) = (d.late.getD a (0, [])).2 by rw [HS.out, hst, if_pos (by rw [← Hx.out]; exact hx)])
     have q3 : (x == (j : Int)) = true := by simpa using hx
     obtain ⟨Au, nu, cu, rfl, hyu⟩ := hy2
     clear hst hx ea
     go_wp2
     go_ret2
     rw [HP.out]
     exact ⟨_, _, rfl, rfl, by simp only; rw [HS2.out]; exact ⟨_, _, _, rfl, hyu⟩, hwW⟩
    ·have HS2 := Lib.hid (show dLast d.late j (d.blocks.getD j []) = dLast (d.late.take a) j (d.blocks.getD j []) by rw [HS.out, hst, if_neg (by rw [← Hx.out]; exact hx)])
     have q3 : (x == (j : Int)) = false := by simpa using hx
     clear hst hx ea
     go_wp2_with fail
     go_round
     case rel => exact ⟨a, by omega, rfl, HS2⟩
     case measure => (simp [intOf]; try omega)
   ·have ha0 : a = 0 := by omega
    subst ha0
    have HS2 := Lib.hid (show dLast d.late j (d.blocks.getD j []) = d.blocks.getD j [] by rw [HS.out]; rfl)
    have ez : (((0 : Nat) : Int) - 1) = -1 := by omega
    rw [ez]
    obtain ⟨b', o', u2, rfl, hb', ck, hy2⟩ := hb.blk_at hjn
    obtain ⟨Au, nu, cu, rfl, hyu⟩ := hy2
    clear ez HS
    go_wp2
    go_ret2
    rw [HP.out]
    exact ⟨_, _, rfl, rfl, by simp only; rw [HS2.out]; exact ⟨_, _, _, rfl, hyu⟩, hwW⟩
end Go.Proofs.YtmcgbdbhpnplmaaGreat
/- A row of the call's own: one element stored anew. No walk here. -/
namespace Go.Proofs.YtmcgbdbhpnplmaaGreat
open Go Go.RowKit
theorem take_set_list {α : Type} (l : List α) (n i : Nat) (x : α) : (l.set i x).take n = (l.take n).set i x := by
 apply List.ext_getElem?
 intro j
 rw [List.getElem?_take, List.getElem?_set, List.getElem?_set, List.getElem?_take, List.length_take]
 by_cases h1 : j < n
 ·by_cases h2 : i = j
  ·subst h2
   simp only [h1, if_true]
   by_cases h3 : i < l.length
   ·rw [if_pos h3, if_pos (by omega)]
   ·rw [if_neg h3, if_neg (by omega)]
  ·simp [h1, h2]
 ·by_cases h2 : i = j
  ·subst h2
   simp only [h1, if_false, if_true]
   rw [if_neg (by omega)]
  ·simp [h1, h2]
theorem own_setAt {w : World} {rb e n c i : Nat} {A : Option Addr} {vs : List Value} (h : w.ownsRow rb e 1 (.slice A n c) n vs) (hi : i < n) :
  ∃ g, A = some ⟨g, 0, none⟩ ∧ rb ≤ g ∧ Kd w g e ∧ w.frozen? ⟨g, i, none⟩ = false ∧ w.cell? ⟨g, i, none⟩ = vs[i]? ∧ ∀ u, (w.setCell ⟨g, i, none⟩ u).ownsRow rb e 1 (.slice A n c) n (vs.set i u) := by
 obtain ⟨hl, h⟩ := h
 rcases h with ⟨_, h⟩ | ⟨g, cap, cur, hv, hg, hh, hc, hm, hs, ht⟩
 ·omega
 ·injection hv with h1 h2 h3
  subst h1 h3
  refine ⟨g, rfl, hg, ⟨cur, hh⟩, by simp [World.frozen?, hh], ?_, fun u => ⟨by rw [List.length_set, hl], .inr ⟨g, c, cur.setIfInBounds i u, rfl, hg, ?_, hc, hm, by simpa using hs, ?_⟩⟩⟩
  ·rw [← ht, List.getElem?_take, if_pos (by omega)]
   simp [World.cell?, hh]
  ·simp [World.setCell, Array.getElem?_modify, hh]
  ·rw [Array.toList_setIfInBounds, take_set_list, ht]
theorem OwnRow.setAt {w : World} {rb base n c i : Nat} {A : Option Addr} {bs : List (List UInt8)} (h : OwnRow eBlk w rb base (.slice A n c) bs) (hi : i < n) (hb : base ≤ rb) :
  ∃ g old, A = some ⟨g, 0, none⟩ ∧ rb ≤ g ∧ Kd w g 23 ∧ w.frozen? ⟨g, i, none⟩ = false ∧ w.cell? ⟨g, i, none⟩ = some old ∧ ByT w base old (bs.getD i []) ∧
   ∀ u b, ByT w base u b → OwnRow eBlk (w.setCell ⟨g, i, none⟩ u) rb base (.slice A n c) (bs.set i b) := by
 obtain ⟨css, hc, ho⟩ := h
 obtain ⟨vs, rfl, hvl, hv⟩ := css_single _ _ _ hc
 rw [map_single_flat] at ho
 have hn : n = bs.length := by
  rcases ho.2 with ⟨h1, h2⟩ | ⟨g, cap, cur, h1, _⟩
  ·injection h1 with _ h1 _; omega
  ·injection h1
 subst hn
 obtain ⟨g, hA, hg, hk, hf, hcell, hset⟩ := own_setAt ho hi
 refine ⟨g, vs.getD i (.bool false), hA, hg, hk, hf, ?_, hv i hi, fun u b hu => ?_⟩
 ·rw [hcell, List.getD_eq_getElem?_getD, List.getElem?_eq_getElem (by omega)]
  rfl
 ·have kk : Kept [] base w (w.setCell ⟨g, i, none⟩ u) := (Kept.refl _ _ _).setK hk (by decide) (by omega) _ _
  refine ⟨(vs.set i u).map fun v => [v], ⟨by simp [hvl], fun j hj => ?_⟩, by rw [map_single_flat, List.length_set]; exact hset u⟩
  rw [List.length_set] at hj
  rw [getD_map _ (.bool false) _ _ _ (by rw [List.length_set]; omega), getD_set, getD_set]
  refine ⟨_, rfl, ?_⟩
  by_cases e : i = j
  ·rw [if_pos ⟨e, by omega⟩, if_pos ⟨e, hi⟩]
   exact hu.kept kk
  ·rw [if_neg (fun h => e h.1), if_neg (fun h => e h.1)]
   exact (hv j hj).kept kk
end Go.Proofs.YtmcgbdbhpnplmaaGreat
/- Walks: disk.Flush. -/
namespace Go.Proofs.YtmcgbdbhpnplmaaGreat
open Go Go.RowKit
set_option maxRecDepth 100000 in
set_option maxHeartbeats 4000000 in
theorem dskFlush_v {T : List TypeId} {base : Nat} {v : Value} {d : Dsk} {w : World} (h : DskV T w base v d) (hk : DskOk d) (hli : LateIn d) :
  Calls Tryz.prog 69 #[v] w fun e w' => ∃ v', e = .returned v' ∧ OwnD w w' v' (dFlush d) ∧ Ext w w' := by
 obtain ⟨A, c, E, m, rfl, h0⟩ := h.at_
 obtain ⟨n, hN⟩ : ∃ n, n = d.blocks.length := ⟨_, rfl⟩
 obtain ⟨e, hE⟩ : ∃ n, n = d.late.length := ⟨_, rfl⟩
 rw [← hN, ← hE] at h h0 ⊢
 have he4 : e ≤ 4096 := by have := hk.late; omega
 have hn4 : n ≤ 4096 := by have := hk.blocks; omega
 have HN := Lib.hid hN
 have HE := Lib.hid hE
 have Hk := Lib.hid hk
 have Hli := Lib.hid hli
 clear hN hE hk hli
 go_enter Tryz.func69, Tryz.ntmps69
 go_wp2_with fail
 obtain ⟨W, hW⟩ : ∃ W, W = (w.alloc (.cells #[.slice A n c, .slice E e m] 30)).alloc (.cells #[.slice none 0 0, .slice none 0 0] 30) := ⟨_, rfl⟩
 rw [← hW]
 have bR : Box W (w.heap.size + 1) 30 #[.slice none 0 0, .slice none 0 0] := by rw [hW]; exact Box.new _ _ _ (size_alloc _ _).symm
 have hwW : Ext w W := by rw [hW]; exact ext_trans (ext_alloc _ _) (ext_alloc _ _)
 have hzW : W.heap.size = w.heap.size + 2 := by rw [hW]; simp
 clear hW h0
 refine (dskOwn_v (h.ext hwW) Hk.out).mono ?_
 rintro e0 w1 ⟨_, rfl, ⟨vb, vl, rfl, hob, hol⟩, he1⟩
 obtain ⟨A1, n1, c1, rfl, hc1, _, HN1⟩ := hob.form
 obtain ⟨A2, e1, c3, rfl, hc3, _, HE1⟩ := hol.form
 have hnn : n1 = n := HN1.out.trans HN.out.symm
 have hee : e1 = e := HE1.out.trans HE.out.symm
 subst hnn hee
 have hz1 := he1.size
 have hlt1 : w.heap.size + 1 < w1.heap.size := by omega
 have bR1 := bR.ext he1
 have hww : Ext w w1 := ext_trans hwW he1
 clear bR
 go_wp2_with fail
 obtain ⟨w2, hw2⟩ : ∃ w2, w2 = w1.alloc (.cells #[.slice A1 n1 c1, .slice A2 e1 c3] 30) := ⟨_, rfl⟩
 rw [← hw2]
 have b3 : Box w2 w1.heap.size 30 #[.slice A1 n1 c1, .slice A2 e1 c3] := by rw [hw2]; exact Box.new _ _ _ rfl
 have he2 : Ext w1 w2 := by rw [hw2]; exact ext_alloc _ _
 have hz2 : w2.heap.size = w1.heap.size + 1 := by rw [hw2]; simp
 clear hw2
 have hob2 := hob.ext he2
 have hol2 := hol.ext he2
 have bR2 := bR1.ext he2
 go_loopw [11] (fun i wr => ∃ (a : Nat), a ≤ e1 ∧ i = .int .i64 a ∧ Box wr w1.heap.size 30 #[.slice A1 n1 c1, .slice A2 e1 c3] ∧ OwnRow eBlk wr W.heap.size 0 (.slice A1 n1 c1) (fTo d.late d.blocks a) ∧ OwnRow eWr wr W.heap.size 0 (.slice A2 e1 c3) d.late ∧ Below W.heap.size w2 wr) (fun i _ => e1 - (intOf i).toNat)
 case atStart => exact ⟨0, by omega, rfl, b3, hob2, hol2, Below.refl _ _⟩
 case round =>
  obtain ⟨a, ha, rfl, b3r, hobr, holr, hd⟩ := hrel
  have hzr := hd.size
  have bRr := bR2.below hd (by omega)
  obtain ⟨m0, m1⟩ := b3r.cells2
  have hltr := b3r.lt
  by_cases hlt : a < e1
  ·obtain ⟨b', o', x, u2, rfl, hb', ck, cd, Hx, hy2⟩ := (holr.row (T := tD) (by decide) (Nat.le_refl _)).wr_at hlt
   have hin := Hli.out a (by have := HE.out; omega)
   rw [← Hx.out, ← HN.out] at hin
   obtain ⟨j, rfl⟩ : ∃ j : Nat, x = (j : Int) := ⟨x.toNat, by omega⟩
   have hj : j < n1 := by omega
   have i0 : (0 : Int) ≤ (j : Int) := by omega
   have i1 : (j : Int) < (n1 : Int) := by omega
   have e0 : (0 : Int) ≤ (a : Int) := by omega
   have e2 : (a : Int) < (e1 : Int) := by omega
   obtain ⟨g, old, hA1, hg, kg, fg, cg, hold, hset⟩ := hobr.setAt hj (Nat.zero_le _)
   subst hA1
   have hu2 := hset _ _ hy2
   obtain ⟨Au, nu, cu, rfl, _⟩ := hy2
   obtain ⟨Ao, no_, co, rfl, _⟩ := hold
   have hgr := kg.lt
   have hS : Hid ((fTo d.late d.blocks a).set j (d.late.getD a (0, [])).2 = fTo d.late d.blocks (a + 1)) := by
    show _ = ((fTo d.late d.blocks a).set (d.late.getD a (0, [])).1.toNat (d.late.getD a (0, [])).2)
    rw [← Hx.out]
    rfl
   rw [hS.out] at hu2
   have hne := Kd.ne kg b3r.kd (by decide)
   have hk5 := (Kept.refl [101] 0 wr).setK kg (by decide) (by omega) j (.slice Au nu cu)
   go_wp2_with fail
   go_roundw
   case rel => exact ⟨a + 1, by omega, by go_num, (b3r.setOther (fun e => hne e.symm) _).alloc _, hu2.ext (ext_alloc _ _), (holr.kept (by decide) (Nat.le_refl _) hk5).ext (ext_alloc _ _), (hd.setCell (by simp; omega) _).alloc (by rw [size_set]; omega) _⟩
   case measure => simp [intOf]; omega
  ·have hae : a = e1 := by omega
   subst hae
   have HF : Hid (dFlush d = ⟨fTo d.late d.blocks a, []⟩) := by show _ = _; unfold dFlush; rw [HE.out]
   have z3 := b3r.free
   obtain ⟨r0, r1⟩ := bRr.cells2
   have zR := bRr.free
   have k3 := b3r.kd
   have kR := bRr.kd
   go_wp2
   ((try simp only [Exit.inBlock, Exit.then]); refine bodyPost_ret (v := ?_) ?resultOf rfl ?_; case resultOf => (rw [results_cell1 rfl]; go_simp; rfl))
   rw [HF.out]
   refine ⟨_, rfl, ⟨_, _, rfl, (hobr.kB (by (repeat (with_reducible (first | assumption | exact Kept.refl _ _ _ | (apply Kept.setK; rotate_left; (repeat (first | assumption | apply Kd.set | apply Kd.alloc | apply Kd.drew)); decide; omega) | refine Kept.allocK ?_ _ | refine Kept.drewK ?_))))).more (rb' := w.heap.size) (by omega) (Nat.le_refl _), OwnRow.nil _ _ _ _⟩, ?_⟩
   have hx : Ext w wr := (ext_trans hww he2).trans (hd.mono (by omega))
   (repeat (with_reducible (first | assumption | exact Below.refl _ _ | refine Below.setCell ?_ (by simp <;> omega) _ | refine Below.alloc ?_ (by simp <;> omega) _ | refine Below.drew ?_ | refine below_drewN ?_ _)))
end Go.Proofs.YtmcgbdbhpnplmaaGreat
/- Walks: disk.Keep. -/
namespace Go.Proofs.YtmcgbdbhpnplmaaGreat
open Go Go.RowKit
theorem and_one (x : Int) : bits .and .i64 x 1 = x % 2 := by
 show IntKind.i64.wrap ((BitVec.ofInt 64 x &&& BitVec.ofInt 64 1).toNat : Int) = _
 have h : (BitVec.ofInt 64 x &&& BitVec.ofInt 64 1).toNat = (x % 2).toNat := by
  rw [BitVec.toNat_and, show (BitVec.ofInt 64 1).toNat = 1 from rfl, Nat.and_one_is_mod, BitVec.toNat_ofInt]
  omega
 rw [h, IntKind.wrap_i64]
 omega
set_option maxRecDepth 100000 in
set_option maxHeartbeats 4000000 in
theorem dskKeep_v {T : List TypeId} {base : Nat} {v : Value} {d : Dsk} {k : Int} {w : World} (h : DskV T w base v d) (hk : DskOk d) (hli : LateIn d) :
  Calls Tryz.prog 65 #[v, .int .i64 k] w fun e w' => ∃ v', e = .returned v' ∧ OwnD w w' v' (dKeep d k) ∧ Ext w w' := by
 obtain ⟨A, c, E, m, rfl, h0⟩ := h.at_
 obtain ⟨n, hN⟩ : ∃ n, n = d.blocks.length := ⟨_, rfl⟩
 obtain ⟨e, hE⟩ : ∃ n, n = d.late.length := ⟨_, rfl⟩
 rw [← hN, ← hE] at h h0 ⊢
 have he4 : e ≤ 4096 := by have := hk.late; omega
 have hn4 : n ≤ 4096 := by have := hk.blocks; omega
 have HN := Lib.hid hN
 have HE := Lib.hid hE
 have Hk := Lib.hid hk
 have Hli := Lib.hid hli
 clear hN hE hk hli
 go_enter Tryz.func65, Tryz.ntmps65
 go_wp2_with fail
 obtain ⟨W, hW⟩ : ∃ W, W = (w.alloc (.cells #[.slice A n c, .slice E e m] 30)).alloc (.cells #[.slice none 0 0, .slice none 0 0] 30) := ⟨_, rfl⟩
 rw [← hW]
 have bR : Box W (w.heap.size + 1) 30 #[.slice none 0 0, .slice none 0 0] := by rw [hW]; exact Box.new _ _ _ (size_alloc _ _).symm
 have hwW : Ext w W := by rw [hW]; exact ext_trans (ext_alloc _ _) (ext_alloc _ _)
 have hzW : W.heap.size = w.heap.size + 2 := by rw [hW]; simp
 clear hW h0
 refine (dskOwn_v (h.ext hwW) Hk.out).mono ?_
 rintro e0 w1 ⟨_, rfl, ⟨vb, vl, rfl, hob, hol⟩, he1⟩
 obtain ⟨A1, n1, c1, rfl, hc1, _, HN1⟩ := hob.form
 obtain ⟨A2, e1, c3, rfl, hc3, _, HE1⟩ := hol.form
 have hnn : n1 = n := HN1.out.trans HN.out.symm
 have hee : e1 = e := HE1.out.trans HE.out.symm
 subst hnn hee
 have hz1 := he1.size
 have hlt1 : w.heap.size + 1 < w1.heap.size := by omega
 have bR1 := bR.ext he1
 have hww : Ext w w1 := ext_trans hwW he1
 clear bR
 go_wp2_with fail
 obtain ⟨w2, hw2⟩ : ∃ w2, w2 = w1.alloc (.cells #[.slice A1 n1 c1, .slice A2 e1 c3] 30) := ⟨_, rfl⟩
 rw [← hw2]
 have b3 : Box w2 w1.heap.size 30 #[.slice A1 n1 c1, .slice A2 e1 c3] := by rw [hw2]; exact Box.new _ _ _ rfl
 have he2 : Ext w1 w2 := by rw [hw2]; exact ext_alloc _ _
 have hz2 : w2.heap.size = w1.heap.size + 1 := by rw [hw2]; simp
 clear hw2
 have hob2 := hob.ext he2
 have hol2 := hol.ext he2
 have bR2 := bR1.ext he2
 go_loopw [13] (fun i wr => ∃ (a : Nat), a ≤ e1 ∧ i = .int .i64 a ∧ Box wr w1.heap.size 30 #[.slice A1 n1 c1, .slice A2 e1 c3] ∧ OwnRow eBlk wr W.heap.size 0 (.slice A1 n1 c1) (kTo d.late k d.blocks a) ∧ OwnRow eWr wr W.heap.size 0 (.slice A2 e1 c3) d.late ∧ Below W.heap.size w2 wr) (fun i _ => e1 - (intOf i).toNat)
 case atStart => exact ⟨0, by omega, rfl, b3, hob2, hol2, Below.refl _ _⟩
 case round =>
  obtain ⟨a, ha, rfl, b3r, hobr, holr, hd⟩ := hrel
  have hzr := hd.size
  have bRr := bR2.below hd (by omega)
  obtain ⟨m0, m1⟩ := b3r.cells2
  have hltr := b3r.lt
  by_cases hlt : a < e1
  ·obtain ⟨b', o', x, u2, rfl, hb', ck, cd, Hx, hy2⟩ := (holr.row (T := tD) (by decide) (Nat.le_refl _)).wr_at hlt
   have hin := Hli.out a (by have := HE.out; omega)
   rw [← Hx.out, ← HN.out] at hin
   obtain ⟨j, rfl⟩ : ∃ j : Nat, x = (j : Int) := ⟨x.toNat, by omega⟩
   have hj : j < n1 := by omega
   have i0 : (0 : Int) ≤ (j : Int) := by omega
   have i1 : (j : Int) < (n1 : Int) := by omega
   have e0 : (0 : Int) ≤ (a : Int) := by omega
   have e2 : (a : Int) < (e1 : Int) := by omega
   have hbit : (bits .and .i64 (k / 2 ^ a) 1 == 1) = dBit k a := by rw [and_one]; rfl
   have hst : kTo d.late k d.blocks (a + 1) = if a < 60 ∧ dBit k a = true then (kTo d.late k d.blocks a).set (d.late.getD a (0, [])).1.toNat (d.late.getD a (0, [])).2 else kTo d.late k d.blocks a := rfl
   by_cases hset0 : a < 60 ∧ dBit k a = true
   ·obtain ⟨h60, hb1⟩ := hset0
    obtain ⟨g, old, hA1, hg, kg, fg, cg, hold, hset⟩ := hobr.setAt hj (Nat.zero_le _)
    subst hA1
    have hu2 := hset _ _ hy2
    obtain ⟨Au, nu, cu, rfl, _⟩ := hy2
    obtain ⟨Ao, no_, co, rfl, _⟩ := hold
    have hgr := kg.lt
    have hS : Hid ((kTo d.late k d.blocks a).set j (d.late.getD a (0, [])).2 = kTo d.late k d.blocks (a + 1)) := by
     show _ = _
     rw [hst, if_pos ⟨h60, hb1⟩, ← Hx.out]
     rfl
    rw [hS.out] at hu2
    have hne := Kd.ne kg b3r.kd (by decide)
    have hk5 := (Kept.refl [101] 0 wr).setK kg (by decide) (by omega) j (.slice Au nu cu)
    have q6 : (a : Int) < 60 := by omega
    rw [hb1] at hbit
    clear hst hb1
    go_wp2_with fail
    go_roundw
    case rel => exact ⟨a + 1, by omega, by go_num, (b3r.setOther (fun e => hne e.symm) _).alloc _, hu2.ext (ext_alloc _ _), (holr.kept (by decide) (Nat.le_refl _) hk5).ext (ext_alloc _ _), (hd.setCell (by simp; omega) _).alloc (by rw [size_set]; omega) _⟩
    case measure => simp [intOf]; omega
   ·have hS : Hid (kTo d.late k d.blocks a = kTo d.late k d.blocks (a + 1)) := by
     show _ = _
     rw [hst, if_neg hset0]
    rw [hS.out] at hobr
    obtain ⟨Au, nu, cu, rfl, _⟩ := hy2
    by_cases h60 : a < 60
    ·have hb1 : dBit k a = false := by
      cases hh : dBit k a with
      | false => rfl
      | true => exact absurd ⟨h60, hh⟩ hset0
     rw [hb1] at hbit
     have q6 : (a : Int) < 60 := by omega
     clear hst hset0 hb1
     go_wp2_with fail
     go_roundw
     case rel => exact ⟨a + 1, by omega, by go_num, b3r.alloc _, hobr.ext (ext_alloc _ _), holr.ext (ext_alloc _ _), hd.alloc (by omega) _⟩
     case measure => simp [intOf]; omega
    ·have q6 : decide ((a : Int) < 60) = false := by simp; omega
     have q7 : (60 : Int) ≤ (a : Int) := by omega
     clear hst hset0 hbit
     go_wp2_with fail
     go_roundw
     case rel => exact ⟨a + 1, by omega, by go_num, b3r.alloc _, hobr.ext (ext_alloc _ _), holr.ext (ext_alloc _ _), hd.alloc (by omega) _⟩
     case measure => simp [intOf]; omega
  ·have hae : a = e1 := by omega
   subst hae
   have HF : Hid (dKeep d k = ⟨kTo d.late k d.blocks a, []⟩) := by show _ = _; unfold dKeep; rw [HE.out]
   have z3 := b3r.free
   obtain ⟨r0, r1⟩ := bRr.cells2
   have zR := bRr.free
   have k3 := b3r.kd
   have kR := bRr.kd
   go_wp2
   ((try simp only [Exit.inBlock, Exit.then]); refine bodyPost_ret (v := ?_) ?resultOf rfl ?_; case resultOf => (rw [results_cell1 rfl]; go_simp; rfl))
   rw [HF.out]
   refine ⟨_, rfl, ⟨_, _, rfl, (hobr.kB (by (repeat (with_reducible (first | assumption | exact Kept.refl _ _ _ | (apply Kept.setK; rotate_left; (repeat (first | assumption | apply Kd.set | apply Kd.alloc | apply Kd.drew)); decide; omega) | refine Kept.allocK ?_ _ | refine Kept.drewK ?_))))).more (rb' := w.heap.size) (by omega) (Nat.le_refl _), OwnRow.nil _ _ _ _⟩, ?_⟩
   have hx : Ext w wr := (ext_trans hww he2).trans (hd.mono (by omega))
   (repeat (with_reducible (first | assumption | exact Below.refl _ _ | refine Below.setCell ?_ (by simp <;> omega) _ | refine Below.alloc ?_ (by simp <;> omega) _ | refine Below.drew ?_ | refine below_drewN ?_ _)))
end Go.Proofs.YtmcgbdbhpnplmaaGreat
/- One byte of a disk of the call's own stored anew. No walk here. -/
namespace Go.Proofs.YtmcgbdbhpnplmaaGreat
open Go Go.RowKit
theorem ByT.other {w : World} {v : Value} {l : List UInt8} {b : Nat} {p : Addr} (h : ByT w 0 v l) (hp : p.block = b) (hne : v.ownBlock ≠ some b) (u : Value) : ByT (w.setCell p u) 0 v l := by
 obtain ⟨A, n, c, rfl, hs, hf⟩ := h
 have hne' : ∀ ad, A = some ad → ad.block ≠ b := by
  rintro ad rfl e
  exact hne (by simp [Value.ownBlock, e])
 have hbl : ∀ ad, A = some ad → (w.setCell p u).heap[ad.block]? = w.heap[ad.block]? := fun ad e => Below.heap_setCell _ _ _ _ (by rw [hp]; exact hne' ad e)
 refine ⟨A, n, c, rfl, ⟨hs.len, hs.cap, hs.max, fun hn => ?_⟩, fun hn ad e => ?_⟩
 ·obtain ⟨ad, e, hb, hc⟩ := hs.at_ hn
  exact ⟨ad, e, by rw [size_set]; exact hb, fun i x hx => (World.cell?_of_block (w := w) (a := ad.add i) (by rw [block_of_add]; exact hbl ad e)).trans (hc i x hx)⟩
 ·rcases hf hn ad e with h | ⟨cur, t, ht, h⟩
  ·exact .inl h
  ·exact .inr ⟨cur, t, ht, (hbl ad e).trans h⟩
theorem ByT.byte {w : World} {base n c k : Nat} {A : Option Addr} {l : List UInt8} (h : ByT w base (.slice A n c) l) (hb0 : base = 0) (hk : k < n) :
  ∃ b o, A = some ⟨b, o, none⟩ ∧ Kd w b 5 ∧ w.frozen? ⟨b, o + k, none⟩ = false ∧ w.cell? ⟨b, o + k, none⟩ = some (.int .u8 ((l.getD k 0).toNat : Int)) ∧ ∀ z : UInt8, ByT (w.setCell ⟨b, o + k, none⟩ (.int .u8 (z.toNat : Int))) 0 (.slice A n c) (l.set k z) := by
 subst hb0
 obtain ⟨A', n', c', e, hs, hf⟩ := h
 injection e with e1 e2 e3
 subst e1 e2 e3
 have hl : l.length = n := By.len hs
 obtain ⟨b, o, rfl, hb, hc⟩ := By.at_ hs hk
 have hkd : ∃ cur, w.heap[b]? = some (.cells cur 5 (0, 0)) := by
  rcases hf (by omega) _ rfl with h | ⟨cur, t, ht, h⟩
  ·exact absurd h (Nat.not_lt_zero _)
  ·simp only [List.mem_cons, List.not_mem_nil, or_false] at ht
   subst ht
   exact ⟨cur, h⟩
 obtain ⟨cur, hcur⟩ := hkd
 refine ⟨b, o, rfl, ⟨cur, hcur⟩, by simp [World.frozen?, hcur], hc k hk, fun z => ⟨_, _, _, rfl, ⟨by rw [u8s_length, List.length_set, hl, Nat.mul_one], hs.cap, hs.max, fun hn => ⟨_, rfl, by rw [size_set]; exact hb, fun i u hu => ?_⟩⟩, fun hn ad e => ?_⟩⟩
 ·have hi : i < n := by
   rcases Nat.lt_or_ge i (u8s (l.set k z)).length with h | h
   ·rw [u8s_length, List.length_set] at h; omega
   ·rw [List.getElem?_eq_none h] at hu; cases hu
  have hci := hc i hi
  have e : (⟨b, o, none⟩ : Addr).add i = ⟨b, o + i, none⟩ := by
   unfold Addr.add
   split
   ·rename_i h0; subst h0; rfl
   ·rfl
  rw [e]
  have hcur' : (w.setCell ⟨b, o + k, none⟩ (.int .u8 (z.toNat : Int))).heap[b]? = some (.cells (cur.setIfInBounds (o + k) (.int .u8 (z.toNat : Int))) 5 (0, 0)) := by
   simp [World.setCell, Array.getElem?_modify, hcur]
  have hold : cur[o + i]? = some (.int .u8 ((l.getD i 0).toNat : Int)) := by simpa [World.cell?, hcur] using hci
  have hlt : o + i < cur.size := (Array.getElem?_eq_some_iff.1 hold).1
  rw [u8s_at, List.getElem?_set] at hu
  by_cases hik : k = i
  ·subst hik
   rw [if_pos rfl, if_pos (by omega)] at hu
   simp only [Option.map_some, Option.some.injEq] at hu
   subst hu
   simp [World.cell?, hcur', hlt, u8v]
  ·rw [if_neg hik, List.getElem?_eq_getElem (by omega)] at hu
   simp only [Option.map_some, Option.some.injEq] at hu
   subst hu
   have hold2 : cur[o + i]? = some (u8v l[i]) := by
    rw [hold, List.getD_eq_getElem?_getD, List.getElem?_eq_getElem (by omega)]
    rfl
   simp [World.cell?, hcur', hik, hold2]
 ·injection e with e
  subst e
  exact .inr ⟨_, 5, by simp, (show (w.setCell _ _).heap[b]? = some (.cells (cur.setIfInBounds (o + k) (.int .u8 (z.toNat : Int))) 5 (0, 0)) by simp [World.setCell, Array.getElem?_modify, hcur])⟩
theorem own_kd {w : World} {rb e size n : Nat} {v : Value} {xs : List Value} (h : w.ownsRow rb e size v n xs) {g : Nat} {t : TypeId} (hk : Kd w g t) (ht : t ≠ e) (p : Addr) (hp : p.block = g) (u : Value) : (w.setCell p u).ownsRow rb e size v n xs := by
 refine ⟨h.1, ?_⟩
 rcases h.2 with hn | ⟨g', cap, cur, rfl, h1, hgg, rest⟩
 ·exact .inl hn
 ·refine .inr ⟨g', cap, cur, rfl, h1, (Below.heap_setCell w p u g' ?_).trans hgg, rest⟩
  rw [hp]
  rintro rfl
  obtain ⟨cs, hk⟩ := hk
  rw [hk] at hgg
  injection hgg with hgg
  injection hgg with _ hgg
  exact ht hgg
theorem spoil_rows {w : World} {rb n c k i : Nat} {A : Option Addr} {lv : Value} {bs : List (List UInt8)} {ls : List (Int × List UInt8)}
  (hb : OwnRow eBlk w rb 0 (.slice A n c) bs) (hl : OwnRow eWr w rb 0 lv ls) {L : Nat} (ha : Apart L w (.agg #[.slice A n c, lv])) (hk : k < n) :
  ∃ g Au nu cu, A = some ⟨g, 0, none⟩ ∧ g < w.heap.size ∧ w.cell? ⟨g, k, none⟩ = some (.slice Au nu cu) ∧ Hid (nu = (bs.getD k []).length) ∧ nu ≤ cu ∧
   (i < nu → ∃ b o x, Au = some ⟨b, o, none⟩ ∧ L ≤ b ∧ b < w.heap.size ∧ Kd w b 5 ∧ w.frozen? ⟨b, o + i, none⟩ = false ∧ w.cell? ⟨b, o + i, none⟩ = some (.int .u8 x) ∧ Hid (x = (((bs.getD k []).getD i 0).toNat : Int)) ∧
    ∀ z : UInt8, OwnRow eBlk (w.setCell ⟨b, o + i, none⟩ (.int .u8 (z.toNat : Int))) rb 0 (.slice A n c) (bs.set k ((bs.getD k []).set i z)) ∧ OwnRow eWr (w.setCell ⟨b, o + i, none⟩ (.int .u8 (z.toNat : Int))) rb 0 lv ls) := by
 obtain ⟨css, hc, ho⟩ := hb
 obtain ⟨vs, rfl, hvl, hv⟩ := css_single _ _ _ hc
 rw [map_single_flat] at ho
 obtain ⟨css', hc', ho'⟩ := hl
 obtain ⟨us, rfl, hul, hu⟩ := css_pair _ _ _ hc'
 rw [lcells_flat] at ho'
 have hn : n = bs.length := by
  rcases ho.2 with ⟨h1, h2⟩ | ⟨g, cap, cur, h1, _⟩
  ·injection h1 with _ h1 _; omega
  ·injection h1
 subst hn
 obtain ⟨b', l', n', m', vs', us', ea, hr1, hr2, hI⟩ := ha
 simp only [Value.agg.injEq, Array.mk.injEq, List.cons.injEq, and_true] at ea
 obtain ⟨rfl, rfl⟩ := ea
 have en : n' = bs.length := by
  obtain ⟨_, _, e0, _⟩ := own_shape hr1
  injection e0 with _ e0 _
  exact e0.symm
 subst en
 have e1 := own_unique hr1 ho
 subst e1
 have em : m' = ls.length := by
  obtain ⟨_, _, e0, _⟩ := own_shape hr2
  obtain ⟨_, _, e1, _⟩ := own_shape ho'
  rw [e0] at e1
  injection e1
 subst em
 have e2 := lcells_inj (own_unique hr2 ho')
 subst e2
 obtain ⟨g, hA, _, hkg, _, hcell, _⟩ := own_setAt ho hk
 obtain ⟨Au, nu, cu, eu, hby, hlu⟩ := (hv k hk).form
 have hvk : vs'[k]? = some (.slice Au nu cu) := by
  rw [← eu, List.getD_eq_getElem?_getD, List.getElem?_eq_getElem (by omega)]
  rfl
 refine ⟨g, Au, nu, cu, hA, hkg.lt, hcell.trans hvk, hlu, Sl.cap hby, fun hi => ?_⟩
 have hvk2 := hv k hk
 rw [eu] at hvk2
 obtain ⟨b, o, rfl, hkd, hfz, hcl, hset⟩ := hvk2.byte rfl hi
 refine ⟨b, o, _, rfl, hI.low (i := k) (by rw [List.getElem?_append_left (by omega)]; exact hvk) rfl, hkd.lt, hkd, hfz, hcl, rfl, fun z => ⟨?_, ?_⟩⟩
 ·refine ⟨vs'.map fun v => [v], ⟨by simp [hvl], fun j hj => ?_⟩, by rw [map_single_flat, List.length_set]; exact own_kd ho hkd (by decide) _ rfl _⟩
  rw [List.length_set] at hj
  rw [getD_map _ (.bool false) _ _ _ (by omega), getD_set]
  refine ⟨_, rfl, ?_⟩
  by_cases hjk : k = j
  ·subst hjk
   rw [if_pos ⟨rfl, hk⟩, eu]
   exact hset z
  ·rw [if_neg (fun h => hjk h.1)]
   refine (hv j hj).other rfl ?_ _
   have hvj : vs'[j]? = some (vs'.getD j (.bool false)) := by
    rw [List.getD_eq_getElem?_getD, List.getElem?_eq_getElem (by omega)]
    rfl
   exact hI.ne (l := vs' ++ us'.map Prod.snd) (i := k) (j := j) hjk (by rw [List.getElem?_append_left (by omega)]; exact hvk) (by rw [List.getElem?_append_left (by omega)]; exact hvj) rfl
 ·refine ⟨us'.map fun p => [Value.int .i64 p.1, p.2], ⟨by simp [hul], fun j hj => ?_⟩, by rw [lcells_flat]; exact own_kd ho' hkd (by decide) _ rfl _⟩
  rw [getD_map _ (0, .bool false) _ _ _ (by omega)]
  refine ⟨_, ?_, (hu j hj).2.other rfl ?_ _⟩
  ·rw [(hu j hj).1]; rfl
  ·have huj : (us'.map Prod.snd)[j]? = some (us'.getD j (0, .bool false)).2 := by
    rw [List.getElem?_map, List.getD_eq_getElem?_getD, List.getElem?_eq_getElem (by omega)]
    rfl
   exact hI.ne (l := vs' ++ us'.map Prod.snd) (i := k) (j := vs'.length + j) (by omega) (by rw [List.getElem?_append_left (by omega)]; exact hvk) (by rw [List.getElem?_append_right (by omega), Nat.add_sub_cancel_left]; exact huj) rfl
end Go.Proofs.YtmcgbdbhpnplmaaGreat
/- Walks: disk.Spoil. -/
namespace Go.Proofs.YtmcgbdbhpnplmaaGreat
open Go Go.RowKit
theorem xor_u8 (a : UInt8) (y : Int) : bits .xor .u8 (a.toNat : Int) (IntKind.u8.wrap y) = ((a ^^^ b8 y).toNat : Int) := by
 have e : IntKind.u8.wrap y = ((b8 y).toNat : Int) := by rw [b8_toNat, IntKind.wrap_u8]; omega
 rw [e]
 generalize b8 y = c
 show IntKind.u8.wrap ((BitVec.ofInt 8 (a.toNat : Int) ^^^ BitVec.ofInt 8 (c.toNat : Int)).toNat : Int) = _
 have h1 : ∀ x : UInt8, (BitVec.ofInt 8 (x.toNat : Int)).toNat = x.toNat := fun x => by
  rw [BitVec.ofInt_natCast, BitVec.toNat_ofNat]
  exact Nat.mod_eq_of_lt x.toNat_lt
 rw [BitVec.toNat_xor, h1, h1, ← UInt8.toNat_xor, IntKind.wrap_u8]
 have := (a ^^^ c).toNat_lt
 omega
set_option maxRecDepth 100000 in
set_option maxHeartbeats 4000000 in
theorem dskSpoil_v {T : List TypeId} {base : Nat} {v : Value} {d : Dsk} {k n y : Int} {w : World} (h : DskV T w base v d) (hk : DskOk d) :
  Calls Tryz.prog 73 #[v, .int .i64 k, .int .i64 n, .int .i64 y] w fun e w' => ∃ v', e = .returned v' ∧ OwnD w w' v' (dSpoil d k n y) ∧ Ext w w' := by
 obtain ⟨A, m, c, E, e, f, rfl, HN, HE, _, _, hmc, hef⟩ := h.form
 have he4 : e ≤ 4096 := by have := hk.late; have := HE.out; omega
 have hm4 : m ≤ 4096 := by have := hk.blocks; have := HN.out; omega
 have Hk := Lib.hid hk
 have hp : ∀ v, dSpoil d k n y = v → Hid (dSpoil d k n y = v) := fun _ h => h
 clear hk
 go_enter Tryz.func73, Tryz.ntmps73
 go_wp2_with fail
 obtain ⟨W, hW⟩ : ∃ W, W = (w.alloc (.cells #[.slice A m c, .slice E e f] 30)).alloc (.cells #[.slice none 0 0, .slice none 0 0] 30) := ⟨_, rfl⟩
 rw [← hW]
 have bR : Box W (w.heap.size + 1) 30 #[.slice none 0 0, .slice none 0 0] := by rw [hW]; exact Box.new _ _ _ (size_alloc _ _).symm
 have hwW : Ext w W := by rw [hW]; exact ext_trans (ext_alloc _ _) (ext_alloc _ _)
 have hzW : W.heap.size = w.heap.size + 2 := by rw [hW]; simp
 clear hW
 refine (dskOwn_a (h.ext hwW) Hk.out).mono ?_
 rintro e0 w1 ⟨_, rfl, ⟨vb, vl, rfl, hob, hol⟩, hap, he1⟩
 obtain ⟨A1, n1, c1, rfl, hc1, _, HN1⟩ := hob.form
 obtain ⟨A2, e1, c3, rfl, hc3, _, HE1⟩ := hol.form
 have hnn : n1 = m := HN1.out.trans HN.out.symm
 have hee : e1 = e := HE1.out.trans HE.out.symm
 subst hnn hee
 have hz1 := he1.size
 have hlt0 : w.heap.size < w1.heap.size := by omega
 have hlt1 : w.heap.size + 1 < w1.heap.size := by omega
 have bR1 := bR.ext he1
 have hww : Ext w w1 := ext_trans hwW he1
 obtain ⟨r0, r1⟩ := bR1.cells2
 have zR := bR1.free
 have kR := bR1.kd
 have hpar : ∀ j : Nat, j < n1 → (d.blocks.getD j []).length = (d.blocks.getD j []).length := fun _ _ => rfl
 clear bR hpar h
 by_cases g1 : 0 ≤ k
 ·by_cases g2 : k < (n1 : Int)
  ·obtain ⟨j, rfl⟩ : ∃ j : Nat, k = (j : Int) := ⟨k.toNat, by omega⟩
   have hj : j < n1 := by omega
   by_cases g3 : 0 ≤ n
   ·obtain ⟨i, rfl⟩ : ∃ i : Nat, n = (i : Int) := ⟨n.toNat, by omega⟩
    obtain ⟨g, Au, nu, cu, rfl, hg, cg, Hnu, hcu, hby⟩ := spoil_rows (i := i) hob hol hap hj
    by_cases g4 : i < nu
    ·obtain ⟨b, o, x, rfl, hLb, hb, kb, fb, cb, Hx, hset⟩ := hby g4
     have HP := hp (⟨d.blocks.set j ((d.blocks.getD j []).set i ((d.blocks.getD j []).getD i 0 ^^^ b8 y)), d.late⟩) (by
      unfold dSpoil
      rw [if_pos ⟨g1, by rw [← HN.out]; exact g2, g3, by rw [Int.toNat_natCast, ← Hnu.out]; omega⟩]
      simp)
     have hx : bits .xor .u8 x (y % 256) = (((d.blocks.getD j []).getD i 0 ^^^ b8 y).toNat : Int) := by rw [Hx.out, ← IntKind.wrap_u8]; exact xor_u8 _ _
     obtain ⟨s1, s2⟩ := hset ((d.blocks.getD j []).getD i 0 ^^^ b8 y)
     generalize hz : (((d.blocks.getD j []).getD i 0 ^^^ b8 y).toNat : Int) = z at hx s1 s2
     have q4 : (i : Int) < (nu : Int) := by omega
     have hneR := Kd.ne kb kR (by decide)
     clear hz hap
     go_wp2
     ((try simp only [Exit.inBlock, Exit.then]); refine bodyPost_ret (v := ?_) ?resultOf rfl ?_; case resultOf => (rw [results_cell1 rfl]; go_simp; rfl))
     rw [HP.out]
     have kR2 := kR.set ⟨b, o + i, none⟩ (.int .u8 z)
     refine ⟨_, rfl, ⟨_, _, rfl, (s1.kB (by (repeat (with_reducible (first | assumption | exact Kept.refl _ _ _ | (apply Kept.setK; rotate_left; (repeat (first | assumption | apply Kd.set | apply Kd.alloc | apply Kd.drew)); decide; omega) | refine Kept.allocK ?_ _ | refine Kept.drewK ?_))))).more (rb' := w.heap.size) (by omega) (Nat.le_refl _), (s2.kW (by (repeat (with_reducible (first | assumption | exact Kept.refl _ _ _ | (apply Kept.setK; rotate_left; (repeat (first | assumption | apply Kd.set | apply Kd.alloc | apply Kd.drew)); decide; omega) | refine Kept.allocK ?_ _ | refine Kept.drewK ?_))))).more (rb' := w.heap.size) (by omega) (Nat.le_refl _)⟩, ?_⟩
     (repeat (with_reducible (first | assumption | exact Below.refl _ _ | refine Below.setCell ?_ (by simp <;> omega) _ | refine Below.alloc ?_ (by simp <;> omega) _ | refine Below.drew ?_ | refine below_drewN ?_ _)))
    ·have q4 : decide ((i : Int) < (nu : Int)) = false := by simp; omega
     have q4' : (nu : Int) ≤ (i : Int) := by omega
     have HP := hp d (by unfold dSpoil; rw [if_neg (by rintro ⟨_, _, _, h⟩; rw [Int.toNat_natCast, ← Hnu.out] at h; omega)])
     clear g4 hap
     go_wp2
     ((try simp only [Exit.inBlock, Exit.then]); refine bodyPost_ret (v := ?_) ?resultOf rfl ?_; case resultOf => (rw [results_cell1 rfl]; go_simp; rfl))
     rw [HP.out]
     refine ⟨_, rfl, ⟨_, _, rfl, (hob.kB (by (repeat (with_reducible (first | assumption | exact Kept.refl _ _ _ | (apply Kept.setK; rotate_left; (repeat (first | assumption | apply Kd.set | apply Kd.alloc | apply Kd.drew)); decide; omega) | refine Kept.allocK ?_ _ | refine Kept.drewK ?_))))).more (rb' := w.heap.size) (by omega) (Nat.le_refl _), (hol.kW (by (repeat (with_reducible (first | assumption | exact Kept.refl _ _ _ | (apply Kept.setK; rotate_left; (repeat (first | assumption | apply Kd.set | apply Kd.alloc | apply Kd.drew)); decide; omega) | refine Kept.allocK ?_ _ | refine Kept.drewK ?_))))).more (rb' := w.heap.size) (by omega) (Nat.le_refl _)⟩, ?_⟩
     (repeat (with_reducible (first | assumption | exact Below.refl _ _ | refine Below.setCell ?_ (by simp <;> omega) _ | refine Below.alloc ?_ (by simp <;> omega) _ | refine Below.drew ?_ | refine below_drewN ?_ _)))
   ·have q3 : decide (0 ≤ n) = false := by simpa using g3
    have q3' : n < 0 := by omega
    have HP := hp d (by unfold dSpoil; rw [if_neg (fun h => g3 h.2.2.1)])
    clear g3 hap
    go_wp2
    ((try simp only [Exit.inBlock, Exit.then]); refine bodyPost_ret (v := ?_) ?resultOf rfl ?_; case resultOf => (rw [results_cell1 rfl]; go_simp; rfl))
    rw [HP.out]
    refine ⟨_, rfl, ⟨_, _, rfl, (hob.kB (by (repeat (with_reducible (first | assumption | exact Kept.refl _ _ _ | (apply Kept.setK; rotate_left; (repeat (first | assumption | apply Kd.set | apply Kd.alloc | apply Kd.drew)); decide; omega) | refine Kept.allocK ?_ _ | refine Kept.drewK ?_))))).more (rb' := w.heap.size) (by omega) (Nat.le_refl _), (hol.kW (by (repeat (with_reducible (first | assumption | exact Kept.refl _ _ _ | (apply Kept.setK; rotate_left; (repeat (first | assumption | apply Kd.set | apply Kd.alloc | apply Kd.drew)); decide; omega) | refine Kept.allocK ?_ _ | refine Kept.drewK ?_))))).more (rb' := w.heap.size) (by omega) (Nat.le_refl _)⟩, ?_⟩
    (repeat (with_reducible (first | assumption | exact Below.refl _ _ | refine Below.setCell ?_ (by simp <;> omega) _ | refine Below.alloc ?_ (by simp <;> omega) _ | refine Below.drew ?_ | refine below_drewN ?_ _)))
  ·have q2 : decide (k < (n1 : Int)) = false := by simpa using g2
   have q2' : (n1 : Int) ≤ k := by omega
   have HP := hp d (by unfold dSpoil; rw [if_neg (fun h => g2 (by rw [HN.out]; exact h.2.1))])
   clear g2 hap
   go_wp2
   ((try simp only [Exit.inBlock, Exit.then]); refine bodyPost_ret (v := ?_) ?resultOf rfl ?_; case resultOf => (rw [results_cell1 rfl]; go_simp; rfl))
   rw [HP.out]
   refine ⟨_, rfl, ⟨_, _, rfl, (hob.kB (by (repeat (with_reducible (first | assumption | exact Kept.refl _ _ _ | (apply Kept.setK; rotate_left; (repeat (first | assumption | apply Kd.set | apply Kd.alloc | apply Kd.drew)); decide; omega) | refine Kept.allocK ?_ _ | refine Kept.drewK ?_))))).more (rb' := w.heap.size) (by omega) (Nat.le_refl _), (hol.kW (by (repeat (with_reducible (first | assumption | exact Kept.refl _ _ _ | (apply Kept.setK; rotate_left; (repeat (first | assumption | apply Kd.set | apply Kd.alloc | apply Kd.drew)); decide; omega) | refine Kept.allocK ?_ _ | refine Kept.drewK ?_))))).more (rb' := w.heap.size) (by omega) (Nat.le_refl _)⟩, ?_⟩
   (repeat (with_reducible (first | assumption | exact Below.refl _ _ | refine Below.setCell ?_ (by simp <;> omega) _ | refine Below.alloc ?_ (by simp <;> omega) _ | refine Below.drew ?_ | refine below_drewN ?_ _)))
 ·have q1 : decide (0 ≤ k) = false := by simpa using g1
  have q1' : k < 0 := by omega
  have HP := hp d (by unfold dSpoil; rw [if_neg (fun h => g1 h.1)])
  clear g1 hap
  go_wp2
  ((try simp only [Exit.inBlock, Exit.then]); refine bodyPost_ret (v := ?_) ?resultOf rfl ?_; case resultOf => (rw [results_cell1 rfl]; go_simp; rfl))
  rw [HP.out]
  refine ⟨_, rfl, ⟨_, _, rfl, (hob.kB (by (repeat (with_reducible (first | assumption | exact Kept.refl _ _ _ | (apply Kept.setK; rotate_left; (repeat (first | assumption | apply Kd.set | apply Kd.alloc | apply Kd.drew)); decide; omega) | refine Kept.allocK ?_ _ | refine Kept.drewK ?_))))).more (rb' := w.heap.size) (by omega) (Nat.le_refl _), (hol.kW (by (repeat (with_reducible (first | assumption | exact Kept.refl _ _ _ | (apply Kept.setK; rotate_left; (repeat (first | assumption | apply Kd.set | apply Kd.alloc | apply Kd.drew)); decide; omega) | refine Kept.allocK ?_ _ | refine Kept.drewK ?_))))).more (rb' := w.heap.size) (by omega) (Nat.le_refl _)⟩, ?_⟩
  (repeat (with_reducible (first | assumption | exact Below.refl _ _ | refine Below.setCell ?_ (by simp <;> omega) _ | refine Below.alloc ?_ (by simp <;> omega) _ | refine Below.drew ?_ | refine below_drewN ?_ _)))
end Go.Proofs.YtmcgbdbhpnplmaaGreat
/- Walks: the document's PutBlock. -/
namespace Go.Proofs.YtmcgbdbhpnplmaaGreat
open Go Go.RowKit
set_option maxRecDepth 100000 in
set_option maxHeartbeats 4000000 in
theorem refPut_v {T : List TypeId} {base : Nat} {v u : Value} {d : Dsk} {k : Int} {l : List UInt8} {w : World} (hT : tD ⊆ T) (hbase : base ≤ w.heap.size) (h : DskV T w base v d) (hk : DskOk d) (hu : ByT w base u l) :
  Calls Tryz.prog 104 #[v, .int .i64 k, u] w fun e w' => ∃ v' q, e = .returned (.tuple #[v', .int .i64 q]) ∧ q = (dPut d k l).2 ∧ DskV T w' base v' (dPut d k l).1 ∧ Ext w w' := by
 obtain ⟨A, n, c, E, e, m, rfl, HN, HE, hb, hl, hnc, hem⟩ := h.form
 obtain ⟨F, n2, c2, rfl, _, HN2⟩ := hu.form
 have he4 : e ≤ 4096 := by have := hk.late; have := HE.out; omega
 have hp : ∀ v, dPut d k l = v → Hid (dPut d k l = v) := fun _ h => h
 have HT := Lib.hid hT
 clear hk h hT
 go_enter Tryz.func104, Tryz.ntmps104
 by_cases hlo : k < 0 ∨ (n : Int) ≤ k
 ·have HP := hp (d, 3) (by unfold dPut; rw [if_pos (by rw [← HN.out]; exact hlo)])
  have hk1 : k < 0 ∨ (¬ k < 0 ∧ (n : Int) ≤ k) := by omega
  rcases hk1 with hk1 | ⟨hk1, hk2⟩
  ·have q1 : decide (k < 0) = true := by simpa using hk1
   clear hlo hk1
   go_wp2
   ((try simp only [Exit.inBlock, Exit.then]); refine bodyPost_ret (v := ?_) ?resultOf rfl ?_; case resultOf => (rw [results_cell_tmp rfl]; go_simp; rfl))
   rw [HP.out]
   refine and_ext (by (repeat (with_reducible (first | assumption | exact Below.refl _ _ | refine Below.setCell ?_ (by simp <;> omega) _ | refine Below.alloc ?_ (by simp <;> omega) _ | refine Below.drew ?_ | refine below_drewN ?_ _)))) fun hx => ⟨_, _, rfl, rfl, ⟨_, _, rfl, hb.ext hx, hl.ext hx⟩⟩
  ·have q1 : decide (k < 0) = false := by simpa using hk1
   have q2 : decide ((n : Int) ≤ k) = true := by simpa using hk2
   clear hlo hk1
   go_wp2
   ((try simp only [Exit.inBlock, Exit.then]); refine bodyPost_ret (v := ?_) ?resultOf rfl ?_; case resultOf => (rw [results_cell_tmp rfl]; go_simp; rfl))
   rw [HP.out]
   refine and_ext (by (repeat (with_reducible (first | assumption | exact Below.refl _ _ | refine Below.setCell ?_ (by simp <;> omega) _ | refine Below.alloc ?_ (by simp <;> omega) _ | refine Below.drew ?_ | refine below_drewN ?_ _)))) fun hx => ⟨_, _, rfl, rfl, ⟨_, _, rfl, hb.ext hx, hl.ext hx⟩⟩
 ·have q1 : decide (k < 0) = false := by simp; omega
  have q2 : decide ((n : Int) ≤ k) = false := by simp; omega
  by_cases h16 : n2 = 16
  ·have HP := hp (⟨d.blocks, d.late ++ [(k, l)]⟩, 0) (by unfold dPut; rw [if_neg (by rw [← HN.out]; exact hlo), if_neg (by rw [← HN2.out]; simpa using h16)])
   clear hlo
   subst h16
   go_upto_region 5 with (fail)
   obtain ⟨W, hW⟩ : ∃ W, W = (w.alloc (.cells #[.slice A n c, .slice E e m] 30)).alloc (.cells #[.slice none 0 0, .slice none 0 0] 30) := ⟨_, rfl⟩
   rw [← hW]
   have bp : Box W w.heap.size 30 #[.slice A n c, .slice E e m] := by rw [hW]; exact (Box.new w _ _ rfl).alloc _
   have bR : Box W (w.heap.size + 1) 30 #[.slice none 0 0, .slice none 0 0] := by rw [hW]; exact Box.new _ _ _ (size_alloc _ _).symm
   have hwW : Ext w W := by rw [hW]; exact ext_trans (ext_alloc _ _) (ext_alloc _ _)
   have hzW : W.heap.size = w.heap.size + 2 := by rw [hW]; simp
   clear hW
   obtain ⟨m0, m1⟩ := bp.cells2
   have hl0 : Row eWr T (W.alloc (.cells #[] eWr.ty)) base (.slice E e m) d.late := hl.ext (ext_trans hwW (ext_alloc _ _))
   have hlt0 : w.heap.size < W.heap.size := by omega
   have ho0 := OwnRow.empty eWr W (base := base) (Nat.le_refl _)
   rw [hzW] at ho0
   have hA1 : Hid (([] : List (Int × List UInt8)).length + d.late.length ≤ lim) := by show _ ≤ _; have := HE.out; rw [lim_def]; simp only [List.length_nil]; omega
   have hA2 : d.late.length + 1 ≤ lim := by have := HE.out; rw [lim_def]; omega
   have hA3 : w.heap.size + 2 ≤ (W.alloc (.cells #[] eWr.ty)).heap.size := by rw [size_alloc]; omega
   go_wp2_with (first
    | (at_builtin; go_loud (refine wpal_wr rfl (.tmp 22) (.tmp 24) rfl rfl ho0 rfl hl0 hA1.out hA3 (by omega) ?_; intro v1 w1 own1 hg1 hb1; have bp1 := (bp.ext (ext_alloc _ _)).below hb1 (by omega); have bR1 := (bR.ext (ext_alloc _ _)).below hb1 (by omega); obtain ⟨x0, x1⟩ := bp1.cells2; obtain ⟨y0, y1⟩ := bR1.cells2; have zp := bp1.free; have zr := bR1.free; have hz1 := hb1.size; rw [size_alloc] at hz1; have hg0 : w.heap.size < w1.heap.size := (by omega); have hx1 : Ext w w1 := (ext_trans hwW (ext_alloc _ _)).trans (hb1.mono (by omega)); have hx2 := fun o => ext_trans hx1 (ext_alloc w1 o); have hg9 : w.heap.size + 1 < w1.heap.size := (by omega); simp only [List.nil_append] at own1))
    | (at_builtin; go_loud (refine wpl_wr rfl (.tmp 25) (.tmp 29) rfl rfl (own1.ext (ext_alloc _ _)) rfl (Sl.new _ _ _ _ 2 1 rfl (by unfold maxLen; omega) (Nat.lt_succ_self _)) (y := (k, l)) ⟨_, rfl, hu.kept (T := []) (.ext (hx2 _))⟩ hA2 (by rw [size_alloc]; omega) (by omega) ?_; intro v2 w2 own2 hg2 hb2; obtain ⟨A2, m2, c3, rfl, _, _, _⟩ := own2.form; have bp2 := (bp1.ext (ext_alloc _ _)).below hb2 (by omega); have bR2 := (bR1.ext (ext_alloc _ _)).below hb2 (by omega); obtain ⟨u0, u1⟩ := bp2.cells2; obtain ⟨s0, s1⟩ := bR2.cells2; have zp2 := bp2.free; have zr2 := bR2.free; have hx3 : Ext w w2 := (ext_trans hx1 (ext_alloc _ _)).trans (hb2.mono (by omega)); have kp := bp2.kd; have kR := bR2.kd)))
   ((try simp only [Exit.inBlock, Exit.then]); refine bodyPost_ret (v := ?_) ?resultOf rfl ?_; case resultOf => (rw [results_cell_tmp rfl]; go_simp; rfl))
   rw [HP.out]
   refine and_ext (by (repeat (with_reducible (first | assumption | exact Below.refl _ _ | refine Below.setCell ?_ (by simp <;> omega) _ | refine Below.alloc ?_ (by simp <;> omega) _ | refine Below.drew ?_ | refine below_drewN ?_ _)))) fun hx => ⟨_, _, rfl, rfl, ⟨_, _, rfl, hb.ext hx, (own2.kW (by (repeat (with_reducible (first | assumption | exact Kept.refl _ _ _ | (apply Kept.setK; rotate_left; (repeat (first | assumption | apply Kd.set | apply Kd.alloc | apply Kd.drew)); decide; omega) | refine Kept.allocK ?_ _ | refine Kept.drewK ?_))))).row (List.mem_cons_of_mem _ (HT.out (by decide))) (Nat.le_refl _)⟩⟩
  ·have q3 : ((n2 : Int) != 16) = true := by rw [bne_iff_ne]; omega
   have HP := hp (d, 2) (by unfold dPut; rw [if_neg (by rw [← HN.out]; exact hlo), if_pos (by rw [← HN2.out]; exact h16)])
   clear hlo h16
   go_wp2
   ((try simp only [Exit.inBlock, Exit.then]); refine bodyPost_ret (v := ?_) ?resultOf rfl ?_; case resultOf => (rw [results_cell_tmp rfl]; go_simp; rfl))
   rw [HP.out]
   refine and_ext (by (repeat (with_reducible (first | assumption | exact Below.refl _ _ | refine Below.setCell ?_ (by simp <;> omega) _ | refine Below.alloc ?_ (by simp <;> omega) _ | refine Below.drew ?_ | refine below_drewN ?_ _)))) fun hx => ⟨_, _, rfl, rfl, ⟨_, _, rfl, hb.ext hx, hl.ext hx⟩⟩
end Go.Proofs.YtmcgbdbhpnplmaaGreat
/- Walks: the document's Keep. -/
namespace Go.Proofs.YtmcgbdbhpnplmaaGreat
open Go Go.RowKit
def uBits (k : Int) (a : Nat) : Int := k % 18446744073709551616 / 2 ^ a
theorem uBits_zero (k : Int) : IntKind.u64.wrap k = uBits k 0 := by rw [IntKind.wrap_u64]; unfold uBits; simp
theorem uBits_nn (k : Int) (a : Nat) : 0 ≤ uBits k a := Int.ediv_nonneg (by omega) (Int.le_of_lt (Int.pow_pos (by omega)))
theorem uBits_succ (k : Int) (a : Nat) : uBits k a / 2 = uBits k (a + 1) := by
 unfold uBits
 rw [Int.ediv_ediv_of_nonneg (Int.le_of_lt (Int.pow_pos (by omega))), Int.pow_succ]
theorem uBits_wrap (k : Int) (a : Nat) : IntKind.u64.wrap ((uBits k a).tdiv 2) = uBits k (a + 1) := by
 have h0 := uBits_nn k a
 have h1 : uBits k a ≤ k % 18446744073709551616 := Int.ediv_le_self _ (by omega)
 rw [Int.tdiv_eq_ediv_of_nonneg h0, uBits_succ, IntKind.wrap_u64, ← uBits_succ]
 omega
theorem uBits_bit (k : Int) (a : Nat) (h : a < 60) : (uBits k a % 2 == 1) = dBit k a := by
 unfold uBits dBit
 have h2 : (0 : Int) < 2 ^ a := Int.pow_pos (by omega)
 have e : (18446744073709551616 : Int) = 2 ^ a * (2 * 2 ^ (63 - a)) := by
  rw [← Int.mul_assoc, Int.mul_comm (2 ^ a) 2, Int.mul_assoc, ← Int.pow_add, show a + (63 - a) = 63 by omega]
  rfl
 have e2 : k % 18446744073709551616 / 2 ^ a % 2 = k / 2 ^ a % 2 := by
  have h3 : k % 18446744073709551616 = k - 2 ^ a * (2 * 2 ^ (63 - a)) * (k / 18446744073709551616) := by
   rw [← e]; omega
  rw [h3, show k - 2 ^ a * (2 * 2 ^ (63 - a)) * (k / 18446744073709551616) = k + 2 ^ a * (-(2 * 2 ^ (63 - a) * (k / 18446744073709551616))) by rw [Int.mul_neg, Int.mul_assoc, Int.sub_eq_add_neg]]
  rw [Int.add_mul_ediv_left _ _ (by omega)]
  generalize 2 ^ (63 - a) * (k / 18446744073709551616) = z
  rw [Int.mul_assoc]
  omega
 rw [e2]
 rfl
set_option maxRecDepth 100000 in
set_option maxHeartbeats 4000000 in
theorem refKeep_v {T : List TypeId} {base : Nat} {v : Value} {d : Dsk} {k : Int} {w : World} (hT : tD ⊆ T) (hbase : base ≤ w.heap.size) (h : DskV T w base v d) (hk : DskOk d) (hli : LateIn d) :
  Calls Tryz.prog 36 #[v, .int .i64 k] w fun e w' => ∃ v', e = .returned v' ∧ DskV T w' base v' (dKeep d k) ∧ Ext w w' := by
 obtain ⟨A, n, c, E, e, m, rfl, HN, HE, hb, hl, hnc, hem⟩ := h.form
 have he4 : e ≤ 4096 := by have := hk.late; have := HE.out; omega
 have hn4 : n ≤ 4096 := by have := hk.blocks; have := HN.out; omega
 have HT := Lib.hid hT
 have Hli := Lib.hid hli
 clear hk h hT hli
 go_enter Tryz.func36, Tryz.ntmps36
 go_upto_region 1 with (fail)
 obtain ⟨W, hW⟩ : ∃ W, W = (w.alloc (.cells #[.slice A n c, .slice E e m] 30)).alloc (.cells #[.slice none 0 0, .slice none 0 0] 30) := ⟨_, rfl⟩
 rw [← hW]
 have bp : Box W w.heap.size 30 #[.slice A n c, .slice E e m] := by rw [hW]; exact (Box.new w _ _ rfl).alloc _
 have bR : Box W (w.heap.size + 1) 30 #[.slice none 0 0, .slice none 0 0] := by rw [hW]; exact Box.new _ _ _ (size_alloc _ _).symm
 have hwW : Ext w W := by rw [hW]; exact ext_trans (ext_alloc _ _) (ext_alloc _ _)
 have hzW : W.heap.size = w.heap.size + 2 := by rw [hW]; simp
 clear hW
 obtain ⟨m0, m1⟩ := bp.cells2
 have hb0 : Row eBlk T (W.alloc (.cells #[] eBlk.ty)) base (.slice A n c) d.blocks := hb.ext (ext_trans hwW (ext_alloc _ _))
 have hl0 := hl.ext hwW
 have hlt0 : w.heap.size < W.heap.size := by omega
 have ho0 := OwnRow.empty eBlk W (base := base) (Nat.le_refl _)
 rw [hzW] at ho0
 have hA1 : Hid (([] : List (List UInt8)).length + d.blocks.length ≤ lim) := by show _ ≤ _; have := HN.out; rw [lim_def]; simp only [List.length_nil]; omega
 have hA3 : w.heap.size + 2 ≤ (W.alloc (.cells #[] eBlk.ty)).heap.size := by rw [size_alloc]; omega
 go_upto_region 2 with (at_builtin; (refine wpal_blk rfl (.tmp 9) (.tmp 11) rfl rfl ho0 rfl hb0 hA1.out hA3 (by omega) ?_; intro v1 w1 own1 hg1 hb1; obtain ⟨A1, n1, c1, rfl, hc1, _, HN1⟩ := own1.form; simp only [List.nil_append] at own1 HN1))
 have kk1 : Kept [] base W w1 := (Kept.ext (ext_alloc _ _)).trans (Kept.app ho0.choose_spec.2 hg1 (by decide) (by omega))
 have bp1 := (bp.ext (ext_alloc _ _)).below hb1 (by omega)
 have bR1 := (bR.ext (ext_alloc _ _)).below hb1 (by omega)
 have hz1 := hb1.size
 rw [size_alloc] at hz1
 have hx1 : Ext w w1 := (ext_trans hwW (ext_alloc _ _)).trans (hb1.mono (by omega))
 have hWw1 : Below W.heap.size W w1 := (ext_alloc _ _).trans (hb1.mono (by omega))
 have hnn : n1 = n := HN1.out.trans HN.out.symm
 subst hnn
 obtain ⟨w2, hw2⟩ : ∃ w2, w2 = w1.alloc (.cells #[.slice A1 n1 c1, .slice none 0 0] 30) := ⟨_, rfl⟩
 rw [← hw2]
 have b5 : Box w2 w1.heap.size 30 #[.slice A1 n1 c1, .slice none 0 0] := by rw [hw2]; exact Box.new _ _ _ rfl
 have he2 : Ext w1 w2 := by rw [hw2]; exact ext_alloc _ _
 have hz2 : w2.heap.size = w1.heap.size + 1 := by rw [hw2]; simp
 clear hw2 ho0 hb0 m0 m1
 have own2 := own1.ext he2
 have bp2 := bp1.ext he2
 have bR2 := bR1.ext he2
 obtain ⟨m0, m1⟩ := bp2.cells2
 have kk2 : Kept [] base W w2 := kk1.trans (.ext he2)
 have hW2 : Below W.heap.size W w2 := hWw1.trans (he2.mono (by omega))
 have hU := uBits_zero k
 go_wp2_with fail
 clear m0 m1
 have hNp := uBits_nn k
 go_loopw [6, 19] (fun u i wr => ∃ (a : Nat), a ≤ e ∧ i = .int .i64 a ∧ u = .int .u64 (uBits k a) ∧ Box wr w1.heap.size 30 #[.slice A1 n1 c1, .slice none 0 0] ∧ OwnRow eBlk wr (w.heap.size + 2) base (.slice A1 n1 c1) (kTo d.late k d.blocks a) ∧ Kept [] base W wr ∧ Below (w.heap.size + 2) w2 wr) (fun _ i _ => e - (intOf i).toNat)
 case atStart => exact ⟨0, by omega, rfl, by first | rw [← hU] | rfl, b5, own2, kk2, Below.refl _ _⟩
 case round =>
  obtain ⟨a, ha, rfl, rfl, b5r, ownr, kkr, hd⟩ := hrel
  have hU1 := Lib.hid (uBits_wrap k a)
  have hU2 := hNp a
  clear hU hNp
  generalize huu : uBits k a = uu at hU1 hU2
  have Huu := Lib.hid huu
  clear huu
  have hzr := hd.size
  have bRr := bR2.below hd (by omega)
  have hltr := b5r.lt
  obtain ⟨m0, m1⟩ := b5r.cells2
  have hWr : Below (w.heap.size + 2) W wr := (hW2.mono (by omega)).trans hd
  by_cases hlt : a < e
  ·obtain ⟨b', o', x, u2, rfl, hb', ck0, cd0, Hx, hy0⟩ := hl0.wr_at hlt
   have ck := (hWr.cell (p := ⟨b', o' + a * 2, none⟩) (show b' < w.heap.size + 2 by omega)).trans ck0
   have cd := (hWr.cell (p := ⟨b', o' + a * 2 + 1, none⟩) (show b' < w.heap.size + 2 by omega)).trans cd0
   have hy2 := hy0.kept kkr
   have hin := Hli.out a (by have := HE.out; omega)
   rw [← Hx.out, ← HN.out] at hin
   obtain ⟨j, rfl⟩ : ∃ j : Nat, x = (j : Int) := ⟨x.toNat, by omega⟩
   have hj : j < n1 := by omega
   have i0 : (0 : Int) ≤ (j : Int) := by omega
   have i1 : (j : Int) < (n1 : Int) := by omega
   have e0 : (0 : Int) ≤ (a : Int) := by omega
   have e2 : (a : Int) < (e : Int) := by omega
   have hst : kTo d.late k d.blocks (a + 1) = if a < 60 ∧ dBit k a = true then (kTo d.late k d.blocks a).set (d.late.getD a (0, [])).1.toNat (d.late.getD a (0, [])).2 else kTo d.late k d.blocks a := rfl
   clear ck0 cd0 hy0
   by_cases hset0 : a < 60 ∧ dBit k a = true
   ·obtain ⟨h60, hb1⟩ := hset0
    obtain ⟨g, old, hA1, hg, kg, fg, cg, hold, hset⟩ := ownr.setAt hj (by omega)
    subst hA1
    have hu2 := hset _ _ hy2
    obtain ⟨Au, nu, cu, rfl, _⟩ := hy2
    obtain ⟨Ao, no_, co, rfl, _⟩ := hold
    have hgr := kg.lt
    have hS : Hid ((kTo d.late k d.blocks a).set j (d.late.getD a (0, [])).2 = kTo d.late k d.blocks (a + 1)) := by
     show _ = _
     rw [hst, if_pos ⟨h60, hb1⟩, ← Hx.out]
     rfl
    rw [hS.out] at hu2
    have hne := Kd.ne kg b5r.kd (by decide)
    have hk5 := kkr.setK kg (by decide) (by omega) j (.slice Au nu cu)
    have q6 : (a : Int) < 60 := by omega
    have q7 : (uu % 2 == 1) = true := by rw [← Huu.out, uBits_bit k a h60]; exact hb1
    clear hst hb1
    go_wp2_with fail
    go_roundw
    case rel => exact ⟨a + 1, by omega, by go_num, by rw [← hU1.out], (b5r.setOther (fun e => hne e.symm) _).alloc _, hu2.ext (ext_alloc _ _), hk5.trans (.ext (ext_alloc _ _)), (hd.setCell (by simp; omega) _).alloc (by rw [size_set]; omega) _⟩
    case measure => simp [intOf]; omega
   ·have hS : Hid (kTo d.late k d.blocks a = kTo d.late k d.blocks (a + 1)) := by
     show _ = _
     rw [hst, if_neg hset0]
    rw [hS.out] at ownr
    obtain ⟨Au, nu, cu, rfl, _⟩ := hy2
    by_cases h60 : a < 60
    ·have hb1 : dBit k a = false := by
      cases hh : dBit k a with
      | false => rfl
      | true => exact absurd ⟨h60, hh⟩ hset0
     have q6 : (a : Int) < 60 := by omega
     have q7 : (uu % 2 == 1) = false := by rw [← Huu.out, uBits_bit k a h60]; exact hb1
     clear hst hset0 hb1
     go_wp2_with fail
     go_roundw
     case rel => exact ⟨a + 1, by omega, by go_num, by rw [← hU1.out], b5r.alloc _, ownr.ext (ext_alloc _ _), kkr.trans (.ext (ext_alloc _ _)), hd.alloc (by omega) _⟩
     case measure => simp [intOf]; omega
    ·have q6 : decide ((a : Int) < 60) = false := by simp; omega
     have q8 : (60 : Int) ≤ (a : Int) := by omega
     clear hst hset0
     go_wp2_with fail
     go_roundw
     case rel => exact ⟨a + 1, by omega, by go_num, by rw [← hU1.out], b5r.alloc _, ownr.ext (ext_alloc _ _), kkr.trans (.ext (ext_alloc _ _)), hd.alloc (by omega) _⟩
     case measure => simp [intOf]; omega
  ·have hae : a = e := by omega
   subst hae
   have HF : Hid (dKeep d k = ⟨kTo d.late k d.blocks a, []⟩) := by show _ = _; unfold dKeep; rw [HE.out]
   obtain ⟨r0, r1⟩ := bRr.cells2
   have zR := bRr.free
   have k3 := b5r.kd
   have kR := bRr.kd
   have hx : Ext w wr := hwW.trans (hWr.mono (by omega))
   go_wp2
   ((try simp only [Exit.inBlock, Exit.then]); refine bodyPost_ret (v := ?_) ?resultOf rfl ?_; case resultOf => (rw [results_cell1 rfl]; go_simp; rfl))
   rw [HF.out]
   refine ⟨_, rfl, ⟨_, _, rfl, (ownr.kB (by (repeat (with_reducible (first | assumption | exact Kept.refl _ _ _ | (apply Kept.setK; rotate_left; (repeat (first | assumption | apply Kd.set | apply Kd.alloc | apply Kd.drew)); decide; omega) | refine Kept.allocK ?_ _ | refine Kept.drewK ?_))))).row (List.mem_cons_of_mem _ (HT.out (by decide))) (Nat.le_refl _), Row.nil _ _ _ _⟩, ?_⟩
   (repeat (with_reducible (first | assumption | exact Below.refl _ _ | refine Below.setCell ?_ (by simp <;> omega) _ | refine Below.alloc ?_ (by simp <;> omega) _ | refine Below.drew ?_ | refine below_drewN ?_ _)))
end Go.Proofs.YtmcgbdbhpnplmaaGreat
/- Walks: the document's Flush. -/
namespace Go.Proofs.YtmcgbdbhpnplmaaGreat
open Go Go.RowKit
def lastTo (d : Dsk) (a : Nat) : List (List UInt8) := (List.range a).map fun i : Nat => dLast d.late i (d.blocks.getD i [])
theorem lastTo_succ (d : Dsk) (a : Nat) : lastTo d (a + 1) = lastTo d a ++ [dLast d.late a (d.blocks.getD a [])] := by
 unfold lastTo
 rw [List.range_succ, List.map_append]
 rfl
theorem lastTo_length (d : Dsk) (a : Nat) : (lastTo d a).length = a := by simp [lastTo]
set_option maxRecDepth 100000 in
set_option maxHeartbeats 4000000 in
theorem refFlush_v {T : List TypeId} {base : Nat} {v : Value} {d : Dsk} {w : World} (hT : tD ⊆ T) (hbase : base ≤ w.heap.size) (h : DskV T w base v d) (hk : DskOk d) (hli : LateIn d) :
  Calls Tryz.prog 70 #[v] w fun e w' => ∃ v', e = .returned v' ∧ DskV T w' base v' (dFlush d) ∧ Ext w w' := by
 obtain ⟨A, n, c, E, e, m, rfl, HN, HE, hb, hl, hnc, hem⟩ := h.form
 have hn4 : n ≤ 4096 := by have := hk.blocks; have := HN.out; omega
 have HT := Lib.hid hT
 have Hk := Lib.hid hk
 have HF : Hid (dFlush d = ⟨lastTo d n, []⟩) := by show _ = _; rw [dFlush_map d hli, HN.out]; rfl
 clear hk hT hli
 go_enter Tryz.func70, Tryz.ntmps70
 go_wp2_with fail
 obtain ⟨W, hW⟩ : ∃ W, W = ((w.alloc (.cells #[.slice A n c, .slice E e m] 30)).alloc (.cells #[.slice none 0 0, .slice none 0 0] 30)).alloc (.cells #[.slice none 0 0, .slice none 0 0] 30) := ⟨_, rfl⟩
 rw [← hW]
 have bp : Box W w.heap.size 30 #[.slice A n c, .slice E e m] := by rw [hW]; exact ((Box.new w _ _ rfl).alloc _).alloc _
 have bR : Box W (w.heap.size + 1) 30 #[.slice none 0 0, .slice none 0 0] := by rw [hW]; exact (Box.new _ _ _ (size_alloc _ _).symm).alloc _
 have b3 : Box W (w.heap.size + 2) 30 #[.slice none 0 0, .slice none 0 0] := by rw [hW]; exact Box.new _ _ _ (by simp)
 have hwW : Ext w W := by rw [hW]; exact ext_trans (ext_trans (ext_alloc _ _) (ext_alloc _ _)) (ext_alloc _ _)
 have hzW : W.heap.size = w.heap.size + 3 := by rw [hW]; simp
 clear hW
 go_loopw [11] (fun i wr => ∃ (a : Nat) (u : Value), a ≤ n ∧ i = .int .i64 a ∧ Box wr (w.heap.size + 2) 30 #[u, .slice none 0 0] ∧ OwnRow eBlk wr (w.heap.size + 3) base u (lastTo d a) ∧ Below (w.heap.size + 2) W wr) (fun i _ => n - (intOf i).toNat)
 case atStart => exact ⟨0, _, by omega, rfl, b3, OwnRow.nil _ _ _ _, Below.refl _ _⟩
 case round =>
  obtain ⟨a, u, ha, rfl, b3r, ownr, hd⟩ := hrel
  have hzr := hd.size
  have bpr := bp.below hd (by omega)
  have bRr := bR.below hd (by omega)
  have hx : Ext w wr := hwW.trans (hd.mono (by omega))
  by_cases hlt : a < n
  ·have e0 : (0 : Int) ≤ (a : Int) := by omega
   have e1 : (a : Int) < (n : Int) := by omega
   have hget : Hid (dGet d a = (dLast d.late a (d.blocks.getD a []), 0)) := by
    show _ = _
    unfold dGet
    rw [if_neg (by have := HN.out; omega)]
    rfl
   have hS := Lib.hid (lastTo_succ d a)
   have hdv := h.ext hx
   obtain ⟨Au, nu, cu, rfl, _, _, HL⟩ := ownr.form
   have hlen : (lastTo d a).length + 1 ≤ lim := by rw [lastTo_length, lim_def]; omega
   obtain ⟨m0, m1⟩ := bpr.cells2
   go_wp2_with fail
   refine (refGet_v hdv Hk.out).mono ?_
   rintro e9 w3 ⟨u3, q3, rfl, hq3, hu3, he3⟩
   rw [hget.out] at hq3 hu3
   have hz3 := he3.size
   have b33 := b3r.ext he3
   have own3 := ownr.ext he3
   have hlt3 : w.heap.size + 2 < w3.heap.size := by omega
   obtain ⟨A3, n3, c3, rfl, hb3y, _⟩ := hu3.form
   obtain ⟨n0, n1⟩ := b33.cells2
   clear m0 m1 hq3
   go_wp2_with (at_builtin; refine wpl_blk rfl (.tmp 21) (.tmp 23) rfl rfl (own3.ext (ext_alloc _ _)) rfl (Sl.new _ _ _ _ 1 1 rfl (by unfold maxLen; omega) (Nat.lt_succ_self _)) ⟨_, rfl, hu3.kept (T := []) (.ext (ext_alloc _ _))⟩ hlen (by rw [size_alloc]; omega) (by omega) ?_; intro v7 w7 own7 hg7 hb7; obtain ⟨A7, n7, c7, rfl, _, _, _⟩ := own7.form; have b37 := (b33.ext (ext_alloc _ _)).below hb7 (by omega); obtain ⟨u0, u1⟩ := b37.cells2; have z7 := b37.free)
   go_roundw
   case rel =>
    have k7 := b37.kd
    refine ⟨a + 1, _, by omega, by go_num, b37.set 0 _, ?_, ((hd.trans (he3.mono (by omega))).trans (((ext_alloc _ _).mono (by omega)).trans (hb7.mono (by omega)))).setCell (Nat.le_refl _) _⟩
    rw [hS.out]
    exact own7.kept (T := [23]) (by decide) (Nat.le_refl _) (by (repeat (with_reducible (first | assumption | exact Kept.refl _ _ _ | (apply Kept.setK; rotate_left; (repeat (first | assumption | apply Kd.set | apply Kd.alloc | apply Kd.drew)); decide; omega) | refine Kept.allocK ?_ _ | refine Kept.drewK ?_))))
   case measure => simp [intOf]; omega
  ·have hae : a = n := by omega
   subst hae
   obtain ⟨Au, nu, cu, rfl, _, _, HL⟩ := ownr.form
   obtain ⟨m0, m1⟩ := b3r.cells2
   obtain ⟨r0, r1⟩ := bRr.cells2
   have zR := bRr.free
   have k3 := b3r.kd
   have kR := bRr.kd
   go_wp2
   ((try simp only [Exit.inBlock, Exit.then]); refine bodyPost_ret (v := ?_) ?resultOf rfl ?_; case resultOf => (rw [results_cell1 rfl]; go_simp; rfl))
   rw [HF.out]
   refine ⟨_, rfl, ⟨_, _, rfl, (ownr.kB (by (repeat (with_reducible (first | assumption | exact Kept.refl _ _ _ | (apply Kept.setK; rotate_left; (repeat (first | assumption | apply Kd.set | apply Kd.alloc | apply Kd.drew)); decide; omega) | refine Kept.allocK ?_ _ | refine Kept.drewK ?_))))).row (List.mem_cons_of_mem _ (HT.out (by decide))) (Nat.le_refl _), Row.nil _ _ _ _⟩, ?_⟩
   (repeat (with_reducible (first | assumption | exact Below.refl _ _ | refine Below.setCell ?_ (by simp <;> omega) _ | refine Below.alloc ?_ (by simp <;> omega) _ | refine Below.drew ?_ | refine below_drewN ?_ _)))
end Go.Proofs.YtmcgbdbhpnplmaaGreat
/- Walks: the document's Spoil. -/
namespace Go.Proofs.YtmcgbdbhpnplmaaGreat
open Go Go.RowKit
theorem and_255 (y : Int) : bits .and .i64 y 255 = y % 256 := by
 show IntKind.i64.wrap ((BitVec.ofInt 64 y &&& BitVec.ofInt 64 255).toNat : Int) = _
 have h : (BitVec.ofInt 64 y &&& BitVec.ofInt 64 255).toNat = (y % 256).toNat := by
  rw [BitVec.toNat_and, show (BitVec.ofInt 64 255).toNat = 2 ^ 8 - 1 from rfl, Nat.and_two_pow_sub_one_eq_mod, BitVec.toNat_ofInt]
  omega
 rw [h, IntKind.wrap_i64]
 omega
theorem xor_i64 (a : UInt8) (y : Int) : bits .xor .i64 (a.toNat : Int) (y % 256) = ((a ^^^ b8 y).toNat : Int) := by
 have e : y % 256 = ((b8 y).toNat : Int) := by rw [b8_toNat]; omega
 rw [e]
 generalize b8 y = c
 show IntKind.i64.wrap ((BitVec.ofInt 64 (a.toNat : Int) ^^^ BitVec.ofInt 64 (c.toNat : Int)).toNat : Int) = _
 rw [BitVec.toNat_xor, ofInt_i64 _ (by have := a.toNat_lt; omega), ofInt_i64 _ (by have := c.toNat_lt; omega), ← UInt8.toNat_xor, IntKind.wrap_i64]
 have := (a ^^^ c).toNat_lt
 omega
theorem u8s_get (l : List UInt8) (i : Nat) (h : i < l.length) : (u8s l)[i]? = some (.int .u8 ((l.getD i 0).toNat : Int)) := by
 rw [u8s_at, List.getD_eq_getElem?_getD, List.getElem?_eq_getElem h]
 rfl
def spTo (d : Dsk) (k n y : Int) (a : Nat) : List (List UInt8) := (List.range a).map fun i : Nat => (dSpoil d k n y).blocks.getD i []
theorem spTo_succ (d : Dsk) (k n y : Int) (a : Nat) : spTo d k n y (a + 1) = spTo d k n y a ++ [(dSpoil d k n y).blocks.getD a []] := by
 unfold spTo
 rw [List.range_succ, List.map_append]
 rfl
theorem spTo_length (d : Dsk) (k n y : Int) (a : Nat) : (spTo d k n y a).length = a := by simp [spTo]
theorem dSpoil_length (d : Dsk) (k n y : Int) : (dSpoil d k n y).blocks.length = d.blocks.length := by unfold dSpoil; split <;> simp
theorem spTo_all (d : Dsk) (k n y : Int) : (⟨spTo d k n y d.blocks.length, d.late⟩ : Dsk) = dSpoil d k n y := by
 have e : (dSpoil d k n y).late = d.late := by unfold dSpoil; split <;> rfl
 have hl := dSpoil_length d k n y
 unfold spTo
 generalize dSpoil d k n y = s at e hl ⊢
 obtain ⟨bs, ls⟩ := s
 simp only at e hl
 subst e
 congr 1
 refine list_ext_getD [] (by simp [hl]) fun i hi => ?_
 simp at hi
 simp [List.getD_eq_getElem?_getD, List.getElem?_map, List.getElem?_range hi]
theorem dSpoil_hit (d : Dsk) (a i : Nat) (y : Int) (ha : a < d.blocks.length) (hi : i < (d.blocks.getD a []).length) : (dSpoil d a i y).blocks.getD a [] = (d.blocks.getD a []).set i ((d.blocks.getD a []).getD i 0 ^^^ b8 y) := by
 unfold dSpoil
 rw [if_pos ⟨by omega, by omega, by omega, by rw [Int.toNat_natCast]; omega⟩]
 simp only [Int.toNat_natCast]
 rw [getD_set, if_pos ⟨rfl, ha⟩]
theorem dSpoil_miss (d : Dsk) (k n y : Int) (a : Nat) (h : ¬ ((a : Int) = k ∧ 0 ≤ n ∧ n < (d.blocks.getD a []).length)) : (dSpoil d k n y).blocks.getD a [] = d.blocks.getD a [] := by
 unfold dSpoil
 split
 ·rename_i hc
  simp only
  rw [getD_set]
  split
  ·rename_i he
   exfalso
   obtain ⟨h1, h2, h3, h4⟩ := hc
   have e : k.toNat = a := he.1
   rw [e] at h4
   exact h ⟨by omega, h3, h4⟩
  ·rfl
 ·rfl
set_option maxRecDepth 100000 in
set_option maxHeartbeats 4000000 in
theorem refSpoil_v {T : List TypeId} {base : Nat} {v : Value} {d : Dsk} {k n y : Int} {w : World} (hT : tD ⊆ T) (hbase : base ≤ w.heap.size) (h : DskV T w base v d) (hk : DskOk d) :
  Calls Tryz.prog 76 #[v, .int .i64 k, .int .i64 n, .int .i64 y] w fun e w' => ∃ v', e = .returned v' ∧ DskV T w' base v' (dSpoil d k n y) ∧ Ext w w' := by
 obtain ⟨A, m, c, E, e, f, rfl, HN, HE, hb, hl, hmc, hef⟩ := h.form
 have hm4 : m ≤ 4096 := by have := hk.blocks; have := HN.out; omega
 have HT := Lib.hid hT
 have Hk := Lib.hid hk
 have HF : Hid (dSpoil d k n y = ⟨spTo d k n y m, d.late⟩) := by show _ = _; rw [HN.out, spTo_all]
 clear hk hT h
 go_enter Tryz.func76, Tryz.ntmps76
 go_wp2_with fail
 obtain ⟨W, hW⟩ : ∃ W, W = ((w.alloc (.cells #[.slice A m c, .slice E e f] 30)).alloc (.cells #[.slice none 0 0, .slice none 0 0] 30)).alloc (.cells #[.slice none 0 0, .slice E e f] 30) := ⟨_, rfl⟩
 rw [← hW]
 have bp : Box W w.heap.size 30 #[.slice A m c, .slice E e f] := by rw [hW]; exact ((Box.new w _ _ rfl).alloc _).alloc _
 have bR : Box W (w.heap.size + 1) 30 #[.slice none 0 0, .slice none 0 0] := by rw [hW]; exact (Box.new _ _ _ (size_alloc _ _).symm).alloc _
 have b3 : Box W (w.heap.size + 2) 30 #[.slice none 0 0, .slice E e f] := by rw [hW]; exact Box.new _ _ _ (by simp)
 have hwW : Ext w W := by rw [hW]; exact ext_trans (ext_trans (ext_alloc _ _) (ext_alloc _ _)) (ext_alloc _ _)
 have hzW : W.heap.size = w.heap.size + 3 := by rw [hW]; simp
 clear hW
 go_loopw [10, 11, 18] (fun t10 t11 i wr => ∃ (a : Nat) (p q u : Value), a ≤ m ∧ i = .int .i64 a ∧ t10 = p ∧ t11 = q ∧ Box wr (w.heap.size + 2) 30 #[u, .slice E e f] ∧ OwnRow eBlk wr (w.heap.size + 3) base u (spTo d k n y a) ∧ Below (w.heap.size + 2) W wr) (fun _ _ i _ => m - (intOf i).toNat)
 case atStart => exact ⟨0, _, _, _, by omega, rfl, rfl, rfl, b3, OwnRow.nil _ _ _ _, Below.refl _ _⟩
 case round =>
  obtain ⟨a, p, q, u, ha, rfl, rfl, rfl, b3r, ownr, hd⟩ := hrel
  have hzr := hd.size
  have bRr := bR.below hd (by omega)
  have hx : Ext w wr := hwW.trans (hd.mono (by omega))
  by_cases hlt : a < m
  ·have e0 : (0 : Int) ≤ (a : Int) := by omega
   have e1 : (a : Int) < (m : Int) := by omega
   have hS := Lib.hid (spTo_succ d k n y a)
   obtain ⟨b', o', u2, rfl, hb', ck, hy2⟩ := (hb.ext hx).blk_at hlt
   obtain ⟨A2, nu, cu, rfl, hby2, HL2⟩ := hy2.form
   obtain ⟨Au, n9, c9, rfl, _, _, HL⟩ := ownr.form
   have hlen : (spTo d k n y a).length + 1 ≤ lim := by rw [spTo_length, lim_def]; omega
   have hlt3 : w.heap.size + 2 < wr.heap.size := by omega
   have hnu : nu ≤ 4096 := by have := Hk.out.block a; have := HL2.out; omega
   by_cases hc : (a : Int) = k ∧ 0 ≤ n ∧ n < (nu : Int)
   ·obtain ⟨h1, h2, h3⟩ := hc
    subst h1
    obtain ⟨i, rfl⟩ : ∃ i : Nat, n = (i : Int) := ⟨n.toNat, by omega⟩
    have hi : i < nu := by omega
    have hV := Lib.hid (dSpoil_hit d a i y (by have := HN.out; omega) (by have := HL2.out; omega))
    have i0 : (0 : Int) ≤ (i : Int) := by omega
    have ho9 := own_lit (size := 1) (n := 0) wr [] 5 (Nat.le_refl _) rfl (by unfold maxLen; omega)
    have hby3 := Sl.below hby2 (ext_alloc wr (.cells #[] 5))
    have hl9 : 0 + nu ≤ blim := by rw [blim_def]; omega
    go_upto_region 7 with (at_builtin; (refine app_u8 rfl (.tmp 36) (.tmp 37) rfl wr.heap.size _ 0 [] rfl ho9 _ A2 nu cu _ rfl hby3 (u8s_one _) hl9 (by rw [size_alloc]; omega) ?_; intro v1 w1 own1 hg1 hb1 hat1))
    rw [Nat.zero_add] at own1
    simp only [List.nil_append] at own1
    obtain ⟨A1, c1, rfl, hs1⟩ := own_shape own1
    obtain ⟨g, hA1, hgg, kg, fg, cg, hset⟩ := own_setAt own1 hi
    subst hA1
    have hlb : i < (d.blocks.getD a []).length := by have := HL2.out; omega
    obtain ⟨xb, hxb⟩ : ∃ xb, xb = (d.blocks.getD a []).getD i 0 := ⟨_, rfl⟩
    have cg1 : w1.cell? ⟨g, i, none⟩ = some (.int .u8 (xb.toNat : Int)) := by rw [cg, hxb, u8s_get _ i hlb]
    have hset1 := hset (.int .u8 ((xb ^^^ b8 y).toNat : Int))
    have hse : (u8s (d.blocks.getD a [])).set i (.int .u8 ((xb ^^^ b8 y).toNat : Int)) = u8s ((d.blocks.getD a []).set i (xb ^^^ b8 y)) := by
     unfold u8s
     rw [List.map_set]
     rfl
    rw [hse] at hset1
    have hlen2 : nu = ((d.blocks.getD a []).set i (xb ^^^ b8 y)).length := by rw [List.length_set]; exact HL2.out
    rw [← hxb] at hV
    have hx1 := xor_i64 xb y
    have hx2 := and_255 y
    have x0 := xb.toNat_lt
    have z0 := (xb ^^^ b8 y).toNat_lt
    generalize (xb ^^^ b8 y) = zb at hset1 hV hx1 z0 hlen2
    generalize hzz : (zb.toNat : Int) = z at hset1 hx1
    generalize hxx : (xb.toNat : Int) = x at cg1 hx1
    have z1 : 0 ≤ z := by omega
    have z2 : z < 256 := by omega
    have y1 : 0 ≤ x := by omega
    have y2 : x < 256 := by omega
    have Hlen2 := Lib.hid hlen2
    have heW : Ext wr w1 := (ext_alloc _ _).trans hb1
    have hzz1 := heW.size
    have heX : Ext wr (w1.setCell ⟨g, i, none⟩ (.int .u8 z)) := heW.setCell hgg _
    have ownX := ownr.ext heX
    have b3X := b3r.ext heX
    have huX : ByT (w1.setCell ⟨g, i, none⟩ (.int .u8 z)) base _ _ := ByT.of_own hset1
    have hdX := hd.trans (heX.mono (show w.heap.size + 2 ≤ wr.heap.size by omega))
    obtain ⟨n0, n1⟩ := (b3r.ext heW).cells2
    have gne : w.heap.size + 2 ≠ g := by omega
    have hlt9 : w.heap.size + 2 < w1.heap.size := by omega
    clear hzz hxx hxb hse hset cg hs1 hlen2 ho9 hby3 x0 z0 hat1 own1
    have hszX := heX.size
    have hslX := Sl.new (w1.setCell ⟨g, i, none⟩ (.int .u8 z)) [.slice (some ⟨g, 0, none⟩) nu c1] 23 (0, 0) 1 1 rfl (by unfold maxLen; omega) (Nat.lt_succ_self _)
    rw [size_set] at hslX
    go_wp2_with (at_builtin; (refine wpl_blk rfl (.tmp 52) (.tmp 54) rfl rfl (ownX.ext (ext_alloc _ _)) rfl hslX ⟨_, rfl, huX.kept (T := []) (.ext (ext_alloc _ _))⟩ hlen (by rw [size_alloc]; omega) (by omega) ?_; intro v7 w7 own7 hg7 hb7; obtain ⟨A7, n7, c7, rfl, _, _, _⟩ := own7.form; have b37 := (b3X.ext (ext_alloc _ _)).below hb7 (by omega); obtain ⟨u0, u1⟩ := b37.cells2; have z7 := b37.free))
    go_roundw
    case rel =>
     have k7 := b37.kd
     refine ⟨a + 1, _, _, _, by omega, by go_num, rfl, rfl, b37.set 0 _, ?_, (hdX.trans (((ext_alloc _ _).mono (by omega)).trans (hb7.mono (by omega)))).setCell (Nat.le_refl _) _⟩
     rw [hS.out, hV.out]
     exact own7.kept (T := [23]) (by decide) (Nat.le_refl _) (by (repeat (with_reducible (first | assumption | exact Kept.refl _ _ _ | (apply Kept.setK; rotate_left; (repeat (first | assumption | apply Kd.set | apply Kd.alloc | apply Kd.drew)); decide; omega) | refine Kept.allocK ?_ _ | refine Kept.drewK ?_))))
    case measure => simp [intOf]; omega
   ·have hV := Lib.hid (dSpoil_miss d k n y a (by rw [← HL2.out]; exact hc))
    have ownX := ownr
    have huX := hy2
    have b3X := b3r
    have hdX := hd
    have hslX := Sl.new wr [.slice A2 nu cu] 23 (0, 0) 1 1 rfl (by unfold maxLen; omega) (Nat.lt_succ_self _)
    obtain ⟨n0, n1⟩ := b3r.cells2
    by_cases h1 : (a : Int) = k
    ·subst h1
     by_cases h2 : 0 ≤ n
     ·have q3 : decide (n < (nu : Int)) = false := by simp; omega
      have q3' : (nu : Int) ≤ n := by omega
      clear hc
      go_wp2_with (at_builtin; (refine wpl_blk rfl (.tmp 52) (.tmp 54) rfl rfl (ownX.ext (ext_alloc _ _)) rfl hslX ⟨_, rfl, huX.kept (T := []) (.ext (ext_alloc _ _))⟩ hlen (by rw [size_alloc]; omega) (by omega) ?_; intro v7 w7 own7 hg7 hb7; obtain ⟨A7, n7, c7, rfl, _, _, _⟩ := own7.form; have b37 := (b3X.ext (ext_alloc _ _)).below hb7 (by omega); obtain ⟨u0, u1⟩ := b37.cells2; have z7 := b37.free))
      go_roundw
      case rel =>
       have k7 := b37.kd
       refine ⟨a + 1, _, _, _, by omega, by go_num, rfl, rfl, b37.set 0 _, ?_, (hdX.trans (((ext_alloc _ _).mono (by omega)).trans (hb7.mono (by omega)))).setCell (Nat.le_refl _) _⟩
       rw [hS.out, hV.out]
       exact own7.kept (T := [23]) (by decide) (Nat.le_refl _) (by (repeat (with_reducible (first | assumption | exact Kept.refl _ _ _ | (apply Kept.setK; rotate_left; (repeat (first | assumption | apply Kd.set | apply Kd.alloc | apply Kd.drew)); decide; omega) | refine Kept.allocK ?_ _ | refine Kept.drewK ?_))))
      case measure => simp [intOf]; omega
     ·have q2 : decide (0 ≤ n) = false := by simpa using h2
      have q2' : n < 0 := by omega
      clear hc h2
      go_wp2_with (at_builtin; (refine wpl_blk rfl (.tmp 52) (.tmp 54) rfl rfl (ownX.ext (ext_alloc _ _)) rfl hslX ⟨_, rfl, huX.kept (T := []) (.ext (ext_alloc _ _))⟩ hlen (by rw [size_alloc]; omega) (by omega) ?_; intro v7 w7 own7 hg7 hb7; obtain ⟨A7, n7, c7, rfl, _, _, _⟩ := own7.form; have b37 := (b3X.ext (ext_alloc _ _)).below hb7 (by omega); obtain ⟨u0, u1⟩ := b37.cells2; have z7 := b37.free))
      go_roundw
      case rel =>
       have k7 := b37.kd
       refine ⟨a + 1, _, _, _, by omega, by go_num, rfl, rfl, b37.set 0 _, ?_, (hdX.trans (((ext_alloc _ _).mono (by omega)).trans (hb7.mono (by omega)))).setCell (Nat.le_refl _) _⟩
       rw [hS.out, hV.out]
       exact own7.kept (T := [23]) (by decide) (Nat.le_refl _) (by (repeat (with_reducible (first | assumption | exact Kept.refl _ _ _ | (apply Kept.setK; rotate_left; (repeat (first | assumption | apply Kd.set | apply Kd.alloc | apply Kd.drew)); decide; omega) | refine Kept.allocK ?_ _ | refine Kept.drewK ?_))))
      case measure => simp [intOf]; omega
    ·have q1 : ((a : Int) == k) = false := by simpa using h1
     clear hc h1
     go_wp2_with (at_builtin; (refine wpl_blk rfl (.tmp 52) (.tmp 54) rfl rfl (ownX.ext (ext_alloc _ _)) rfl hslX ⟨_, rfl, huX.kept (T := []) (.ext (ext_alloc _ _))⟩ hlen (by rw [size_alloc]; omega) (by omega) ?_; intro v7 w7 own7 hg7 hb7; obtain ⟨A7, n7, c7, rfl, _, _, _⟩ := own7.form; have b37 := (b3X.ext (ext_alloc _ _)).below hb7 (by omega); obtain ⟨u0, u1⟩ := b37.cells2; have z7 := b37.free))
     go_roundw
     case rel =>
      have k7 := b37.kd
      refine ⟨a + 1, _, _, _, by omega, by go_num, rfl, rfl, b37.set 0 _, ?_, (hdX.trans (((ext_alloc _ _).mono (by omega)).trans (hb7.mono (by omega)))).setCell (Nat.le_refl _) _⟩
      rw [hS.out, hV.out]
      exact own7.kept (T := [23]) (by decide) (Nat.le_refl _) (by (repeat (with_reducible (first | assumption | exact Kept.refl _ _ _ | (apply Kept.setK; rotate_left; (repeat (first | assumption | apply Kd.set | apply Kd.alloc | apply Kd.drew)); decide; omega) | refine Kept.allocK ?_ _ | refine Kept.drewK ?_))))
     case measure => simp [intOf]; omega
  ·have hae : a = m := by omega
   subst hae
   obtain ⟨Au, nu, cu, rfl, _, _, HL⟩ := ownr.form
   obtain ⟨m0, m1⟩ := b3r.cells2
   obtain ⟨r0, r1⟩ := bRr.cells2
   have zR := bRr.free
   have k3 := b3r.kd
   have kR := bRr.kd
   go_wp2
   ((try simp only [Exit.inBlock, Exit.then]); refine bodyPost_ret (v := ?_) ?resultOf rfl ?_; case resultOf => (rw [results_cell1 rfl]; go_simp; rfl))
   rw [HF.out]
   refine and_ext1 (by (repeat (with_reducible (first | assumption | exact Below.refl _ _ | refine Below.setCell ?_ (by simp <;> omega) _ | refine Below.alloc ?_ (by simp <;> omega) _ | refine Below.drew ?_ | refine below_drewN ?_ _)))) fun hxx => ⟨_, rfl, ⟨_, _, rfl, (ownr.kB (by (repeat (with_reducible (first | assumption | exact Kept.refl _ _ _ | (apply Kept.setK; rotate_left; (repeat (first | assumption | apply Kd.set | apply Kd.alloc | apply Kd.drew)); decide; omega) | refine Kept.allocK ?_ _ | refine Kept.drewK ?_))))).row (List.mem_cons_of_mem _ (HT.out (by decide))) (Nat.le_refl _), hl.ext hxx⟩⟩
end Go.Proofs.YtmcgbdbhpnplmaaGreat
/- Walks: a new disk, the document's. -/
namespace Go.Proofs.YtmcgbdbhpnplmaaGreat
open Go Go.RowKit
theorem free_w (w : World) : Calls Tryz.prog 88 #[] w fun e w' => e = .returned (.agg #[.int .i64 1, .int .i64 0, .int .i64 0, .slice none 0 0]) ∧ Ext w w' := by
 go_enter Tryz.func88, Tryz.ntmps88
 go_wp2
 ((try simp only [Exit.inBlock, Exit.then]); refine bodyPost_ret (v := ?_) ?resultOf rfl ?_; case resultOf => (rw [results_cell1 rfl]; go_simp; rfl))
 refine ⟨rfl, ?_⟩
 (repeat (with_reducible (first | assumption | exact Below.refl _ _ | refine Below.setCell ?_ (by simp <;> omega) _ | refine Below.alloc ?_ (by simp <;> omega) _ | refine Below.drew ?_ | refine below_drewN ?_ _)))
set_option maxRecDepth 100000 in
set_option maxHeartbeats 2000000 in
theorem refNew_w (w : World) : Calls Tryz.prog 53 #[] w fun e w' => ∃ v, e = .returned v ∧ OwnDsk w w' v dFree ∧ Ext w w' := by
 go_enter Tryz.func53, Tryz.ntmps53
 go_wp2_with fail
 obtain ⟨W, hW⟩ : ∃ W, W = (w.alloc (.cells #[.slice none 0 0, .slice none 0 0] 30)).alloc (.cells #[.slice none 0 0, .slice none 0 0] 30) := ⟨_, rfl⟩
 rw [← hW]
 have bR : Box W w.heap.size 30 #[.slice none 0 0, .slice none 0 0] := by rw [hW]; exact (Box.new w _ _ rfl).alloc _
 have bd : Box W (w.heap.size + 1) 30 #[.slice none 0 0, .slice none 0 0] := by rw [hW]; exact Box.new _ _ _ (size_alloc _ _).symm
 have hwW : Ext w W := by rw [hW]; exact ext_trans (ext_alloc _ _) (ext_alloc _ _)
 have hzW : W.heap.size = w.heap.size + 1 + 1 := by rw [hW]; simp
 clear hW
 go_loopw [4] (fun i wr => ∃ (k : Nat) (v : Value), k ≤ 12 ∧ i = .int .i64 k ∧ Box wr (w.heap.size + 1) 30 #[v, .slice none 0 0] ∧ OwnBlks wr (w.heap.size + 2) 0 v (((List.range 12).map fun i : Nat => rBytes rFree (i : Int)).take k) ∧ Below (w.heap.size + 1) W wr) (fun i _ => 12 - (intOf i).toNat)
 case atStart => exact ⟨0, _, by omega, rfl, bd, OwnBlks.nil _ _ _, Below.refl _ _⟩
 case round =>
  obtain ⟨k, v, hk, rfl, b7, hown, hd⟩ := hrel
  have bRr := bR.below hd (by omega)
  by_cases hlt : k < 12
  ·have i1 : (k : Int) < 12 := by omega
   have hzr := hd.size
   obtain ⟨vs, ho, hv⟩ := hown
   have hlen : (((List.range 12).map fun i : Nat => rBytes rFree (i : Int)).take k).length = k := by simp; omega
   rw [hlen] at ho hv
   obtain ⟨Av, cv, rfl, hsv⟩ := own_shape ho
   go_wp2_with fail
   refine wp_region_below (w.heap.size + 1 + 1) 9 [0, 1, 3, 7] true rfl (by kernel_rfl) (by kernel_rfl) ?_
   obtain ⟨D, hD⟩ : ∃ D, D = wr.drew := ⟨_, rfl⟩
   rw [← hD]
   have bD : Box D (w.heap.size + 1) 30 #[.slice Av k cv, .slice none 0 0] := by rw [hD]; exact b7
   have hoD : D.ownsRow (w.heap.size + 2) 23 1 (.slice Av k cv) k vs := by rw [hD]; exact ho
   have hwD : Ext wr D := by rw [hD]; exact (Below.refl _ _).drew
   have hdD : Below (w.heap.size + 1) W D := hd.trans (hwD.mono (by omega))
   have hzD := hdD.size
   clear hD
   apply mixF 0 (by kernel_rfl) (by rfl) (by rfl)
   ·(intro w' hx; go_simp <;> with_reducible rfl)
   simp only [pA, pB, pC, pD]
   apply mixF 1 (by kernel_rfl) (by rfl) (by rfl)
   ·(intro w' hx; have q := (bD.below hx (by omega)).cell 0 rfl; go_simp <;> with_reducible rfl)
   simp only [pA, pB, pC, pD]
   apply mixF 3 (by kernel_rfl) (by rfl) (by rfl)
   ·(intro w' hx; go_simp <;> with_reducible rfl)
   simp only [pA, pB, pC, pD]
   refine mixS 2 (by kernel_rfl) (by kernel_rfl) (by rfl) (by rfl) (fun K hK => ?_)
   go_wp2_with (go_at_call 88; refine (free_w _).mono ?_; rintro e w1 ⟨rfl, he0⟩)
   refine hK.out _ _ (he0.mono (by omega)) ?_
   clear hK K
   try simp only [pA, pB, pC, pD]
   have hz0 := he0.size
   obtain ⟨D', hD', hDD⟩ : ∃ D', D' = w1 ∧ Ext D D' := ⟨_, rfl, he0⟩
   rw [← hD']
   have bD := bD.ext hDD
   have hoD := own_ext hoD hDD
   have hwD := ext_trans hwD hDD
   have hdD := hdD.trans (hDD.mono (by omega))
   rw [← hD'] at hz0
   clear hD' he0 w1
   refine mixS 4 (by kernel_rfl) (by kernel_rfl) (by rfl) (by rfl) (fun K hK => ?_)
   go_wp2_with (go_at_call 87; refine (refBytes_w (r := rFree) (k := (k : Int)) (B := 0) _ (Sl.nil_ _ _ _) (Nat.zero_le _) (by omega) (by decide) (by decide)).mono ?_; rintro e w1 ⟨v1, rfl, own1, he1⟩; obtain ⟨A1, c1, rfl, hs1⟩ := own_shape own1)
   refine hK.out _ _ (he1.mono (by omega)) ?_
   clear hK K
   try simp only [pA, pB, pC, pD]
   have hz1 := he1.size
   refine mixS 5 (by kernel_rfl) (by kernel_rfl) (by rfl) (by rfl) (fun K hK => ?_)
   go_wp2
   refine hK.out _ _ ((ext_alloc _ _).mono (by omega)) ?_
   clear hK K
   try simp only [pA, pB, pC, pD]
   obtain ⟨w4, hw4⟩ : ∃ w4, w4 = w1.alloc (.cells #[.slice A1 16 c1] 23) := ⟨_, rfl⟩
   rw [← hw4]
   have he4 : Ext w1 w4 := by rw [hw4]; exact ext_alloc _ _
   have hs4 : Sl w4 w4.heap.size 1 (some ⟨w1.heap.size, 0, none⟩) 1 1 [.slice A1 16 c1] := by rw [hw4]; exact Sl.new _ _ _ _ 1 1 rfl (by unfold maxLen; omega) (by simp)
   have hz4 := he4.size
   clear hw4
   have ho4 := own_ext (own_ext hoD he1) he4
   have hv4 := fun i hi => (((hv i hi).ext hwD).ext he1).ext he4
   have hu4 : ByE w4 0 (.slice A1 16 c1) (rBytes rFree (k : Int)) := (ByE.of_own (own_more own1 (by omega))).ext he4
   refine mixS 6 (by kernel_rfl) (by kernel_rfl) (by rfl) (by rfl) (fun K hK => ?_)
   refine wp_app_blk (.tmp 8) (.tmp 12) rfl (w.heap.size + 2) (.slice Av k cv) k _ rfl ho4 _ _ 1 1 [.slice A1 16 c1] rfl hs4 (by simp [Value.oneCell']) (by rw [lim_def]; omega) (by omega) ?_
   intro v7 w7 own7 hg7 hb7 hat7
   refine hK.out _ _ hb7 ?_
   clear hK K hat7
   try simp only [pA, pB, pC, pD]
   have hown7 := OwnBlks.snoc (rb := w.heap.size + 2) (base := 0) (by omega) (bs := ((List.range 12).map fun i : Nat => rBytes rFree (i : Int)).take k) (b := rBytes rFree (k : Int)) (by rw [hlen]; exact ho4) (by rw [hlen]; exact hv4) hu4 (by rw [hlen]; exact own7) hg7
   rw [← range_take k hlt] at hown7
   have hd7 : Below (w.heap.size + 1) W w7 := hdD.trans ((he1.mono (by omega)).trans ((he4.mono (by omega)).trans (hb7.mono (by omega))))
   have b8_ := bD.below ((he1.mono (B' := w.heap.size + 2) (by omega)).trans ((he4.mono (by omega)).trans hb7)) (by omega)
   have n0 := b8_.cell 0 rfl
   have n1 := b8_.cell 1 rfl
   have zn := b8_.free
   apply mixF 7 (by kernel_rfl) (by rfl) (by rfl)
   ·(intro w' hx; go_simp <;> with_reducible rfl)
   simp only [pA, pB, pC, pD]
   obtain ⟨A7, c7, rfl, _⟩ := own_shape own7
   refine mixLast 8 (by kernel_rfl) (by kernel_rfl) (by kernel_rfl) (by rfl) (by rfl) (fun K hK => ?_)
   have hK' := Lib.hid hK
   clear hK
   go_wp2
   refine hK'.out _ _ ?_
   clear hK' K n0 n1 zn b7 bD
   refine NoPanic.normal ?_
   go_wp2
   go_roundw
   case rel =>
    exact ⟨k + 1, _, by omega, by go_num, b8_.set 0 _, hown7.set b8_ (by decide) (by decide) (by omega) 0 _, hd7.setCell (Nat.le_refl _) _⟩
   case measure => simp [intOf]; omega
  ·have hk12 : k = 12 := by omega
   subst hk12
   rw [List.take_of_length_le (by simp)] at hown
   obtain ⟨Av, cv, rfl, hsv⟩ := hown.shape
   have n0 := b7.cell 0 rfl
   have n1 := b7.cell 1 rfl
   have r0 := bRr.cell 0 rfl
   have r1 := bRr.cell 1 rfl
   have zr := bRr.free
   go_wp2
   ((try simp only [Exit.inBlock, Exit.then]); refine bodyPost_ret (v := ?_) ?resultOf rfl ?_; case resultOf => (rw [results_cell1 rfl]; go_simp; rfl))
   have hdd := hwW.trans (hd.mono (by omega))
   refine ⟨_, rfl, ⟨_, _, rfl, ?_, OwnLats.nil _ _ _⟩, (hdd.setCell (Nat.le_refl _) _).setCell (Nat.le_refl _) _⟩
   exact ((hown.set bRr (by decide) (by decide) (Nat.zero_le _) 0 _).set (bRr.set 0 _) (by decide) (by decide) (Nat.zero_le _) 1 _).more (by omega)
end Go.Proofs.YtmcgbdbhpnplmaaGreat
/- Plain: a right disk is small, and its writes are of blocks that there are. -/
namespace Go.Proofs.YtmcgbdbhpnplmaaGreat
open Go Go.RowKit
theorem refNew_v (w : World) : Calls Tryz.prog 53 #[] w fun e w' => ∃ v, e = .returned v ∧ OwnD w w' v dFree ∧ Ext w w' :=
 (refNew_w w).mono fun _ _ ⟨v, h1, h2, h3⟩ => ⟨v, h1, h2.ownD, h3⟩
theorem DskV.parts {T : List TypeId} {w : World} {base : Nat} {v : Value} {d : Dsk} (h : DskV T w base v d) : ∃ A n c E m e, v = .agg #[.slice A n c, .slice E m e] := by
 obtain ⟨A, n, c, E, m, e, h, _⟩ := h.form
 exact ⟨A, n, c, E, m, e, h⟩
theorem OwnD.v {w0 w : World} {v : Value} {d : Dsk} (h : OwnD w0 w v d) : DskV tD w 0 v d := h.dskV (List.Subset.refl _)
end Go.Proofs.YtmcgbdbhpnplmaaGreat
