/- Texts laid together: words, plain laws and walks of the program's functions (G4). -/
import Derived.Test.YtdmnmfnmaccmoaaGreatDoorG1
import Derived.Deep.OwnRows
import Derived.Test.YtdmnmfnmaccmoaaGreatDoorG2
import Derived.Deep.Cut
import Derived.Deep.CutRange
/- Walks: a block's record read, the package's. -/
namespace Go.Proofs.YtdmnmfnmaccmoaaGreatDoor
open Go Go.RowKit
theorem own_zero (w0 w : World) : OwnRec w0 w (.agg #[.int .i64 0, .int .i64 0, .int .i64 0, .slice none 0 0]) rZero := ⟨_, _, rfl, own_nil _ _ _ _⟩
theorem any_true (l : List UInt8) (s t j : Nat) (hj : j < t) (hl : s + j < l.length) (h : l.getD (s + j) 0 ≠ 0) : ((l.drop s).take t).any (fun c => c != 0) = true := by
 rw [List.any_eq_true]
 refine ⟨l.getD (s + j) 0, ?_, by simpa using h⟩
 rw [List.mem_take_iff_getElem]
 refine ⟨j, by rw [List.length_drop]; omega, ?_⟩
 rw [List.getElem_drop, List.getD_eq_getElem?_getD, List.getElem?_eq_getElem hl]
 rfl
theorem any_succ (l : List UInt8) (s j : Nat) (h : ((l.drop s).take j).any (fun c => c != 0) = false) (hj : l.getD (s + j) 0 = 0) : ((l.drop s).take (j + 1)).any (fun c => c != 0) = false := by
 rcases Nat.lt_or_ge (s + j) l.length with hl | hl
 ·rw [List.take_succ_eq_append_getElem (by rw [List.length_drop]; omega), List.any_append, h, Bool.false_or]
  rw [List.getD_eq_getElem?_getD, List.getElem?_eq_getElem hl] at hj
  simpa using hj
 ·rw [List.take_of_length_le (by rw [List.length_drop]; omega)] at h
  rw [List.take_of_length_le (by rw [List.length_drop]; omega)]
  exact h
set_option maxRecDepth 100000 in
set_option maxHeartbeats 2000000 in
theorem read_w {A : Option Addr} {n c B : Nat} {l : List UInt8} {k : Int} (w : World) (h : By w B A n c l) (hB : B ≤ w.heap.size) :
  Calls Tryz.prog 104 #[.slice A n c, .int .i64 k] w fun e w' => ∃ v q, e = .returned (.tuple #[v, .int .i64 q]) ∧ q = (rRead l k).2 ∧ OwnRec w w' v (rRead l k).1 ∧ Ext w w' := by
 have hl := h.len
 have hc := Sl.cap h
 have hm := Sl.max h
 unfold maxLen at hm
 by_cases h16 : n = 16
 ·subst h16
  cases hs : sSealed l with
  | false =>
   have Hr := Lib.hid (show rRead l k = (rZero, 7) by unfold rRead; rw [if_neg (by omega), if_pos hs])
   go_enter Tryz.func104, Tryz.ntmps104
   go_wp2_with fail
   refine (sealed_q _ _ _ _ l _ (Sl.below h ((ext_alloc _ _).mono hB))).mono ?_
   rintro e w1 ⟨rfl, m, rfl⟩
   rw [hs]
   go_wp2
   ((try simp only [Exit.inBlock, Exit.then]); refine bodyPost_ret (v := ?_) ?resultOf rfl ?_; case resultOf => (rw [results_cell_tmp rfl]; go_simp; rfl))
   rw [Hr.out]
   refine ⟨_, _, rfl, rfl, own_zero _ _, ?_⟩
   (repeat (with_reducible (first | assumption | exact Below.refl _ _ | refine Below.setCell ?_ (by simp <;> omega) _ | refine Below.alloc ?_ (by simp <;> omega) _ | refine Below.drew ?_ | refine below_drewN ?_ _)))
  | true =>
   have Hs := Lib.hid hs
   go_enter Tryz.func104, Tryz.ntmps104
   go_wp2_with fail
   refine (sealed_w _ _ _ _ l _ (Sl.below h ((ext_alloc _ _).mono hB))).mono ?_
   rintro e V ⟨rfl, heV⟩
   have he : Ext w V := ext_trans (ext_alloc _ _) heV
   have bR : Box V w.heap.size 54 _ := (Box.new w _ _ rfl).ext heV
   have hzV := heV.size
   rw [size_alloc] at hzV
   rw [hs]
   have hb : By V B A 16 c l := Sl.below h (he.mono hB)
   obtain ⟨b, o, x0, rfl, hbB, c0, x00, x01, X0⟩ := hb.byte (k := 0) (by omega)
   obtain ⟨_, _, x1, e', _, c1, x10, x11, X1⟩ := hb.byte (k := 1) (by omega)
   cases e'
   obtain ⟨_, _, x2, e', _, c2, x20, x21, X2⟩ := hb.byte (k := 2) (by omega)
   cases e'
   obtain ⟨_, _, x3, e', _, c3, x30, x31, X3⟩ := hb.byte (k := 3) (by omega)
   cases e'
   obtain ⟨_, _, x4, e', _, c4, x40, x41, X4⟩ := hb.byte (k := 4) (by omega)
   cases e'
   obtain ⟨_, _, x5, e', _, c5, x50, x51, X5⟩ := hb.byte (k := 5) (by omega)
   cases e'
   obtain ⟨u, rfl⟩ := Int.eq_ofNat_of_zero_le x50
   have p0 : IntKind.i64.wrap x0 = x0 := IntWalk.i64_in _ (by omega)
   have p1 : IntKind.i64.wrap x1 = x1 := IntWalk.i64_in _ (by omega)
   have p2 : IntKind.i64.wrap x2 = x2 := IntWalk.i64_in _ (by omega)
   have p5 : IntKind.i64.wrap (u : Int) = (u : Int) := IntWalk.i64_in _ (by omega)
   have r0 := bR.cell 0 rfl
   have r1 := bR.cell 1 rfl
   have r2 := bR.cell 2 rfl
   have r3 := bR.cell 3 rfl
   have z0 := bR.free
   have Hl := Lib.hid hl
   clear heV hl hs
   by_cases hk : x1 = k
   ·have q1 : (x1 != k) = false := by simpa using hk
    by_cases h8 : u ≤ 8
    ·have q2 : decide ((8 : Int) < (u : Int)) = false := by simp; omega
     have q3 : IntKind.i64.wrap (6 + (u : Int)) = 6 + (u : Int) := IntWalk.i64_in _ (by omega)
     have q4 : decide ((6 : Int) + (u : Int) ≤ 14) = true := by simp; omega
     have q5 : (0 : Int) ≤ 6 + (u : Int) := by omega
     have q6 : (6 : Int) + (u : Int) ≤ 14 := by omega
     have q7 : (14 : Int) ≤ (c : Int) := by omega
     go_wp2_with fail
     go_loopw [44] (fun i wr => ∃ j : Nat, j ≤ 8 - u ∧ i = .int .i64 j ∧ Hid (((l.drop (6 + u)).take j).any (fun c => c != 0) = false) ∧ V = wr) (fun i _ => 8 - u - (intOf i).toNat)
     case atStart => exact ⟨0, Nat.zero_le _, rfl, (show _ = _ from by simp), rfl⟩
     case round =>
      obtain ⟨j, hj, rfl, ha, rfl⟩ := hrel
      have i0 : (0 : Int) ≤ (j : Int) := by omega
      by_cases hlt : j < 8 - u
      ·have i1 : (j : Int) < ((14 - (6 + u) : Nat) : Int) := by omega
       have i2 : j < 14 - (6 + u) := by omega
       obtain ⟨_, _, y, e', _, cy, y0, y1, Y⟩ := hb.byte (k := 6 + u + j) (by omega)
       cases e'
       rw [← Nat.add_assoc] at cy
       by_cases hy : y = 0
       ·subst hy
        have hs := Lib.hid (any_succ l (6 + u) j ha.out (by apply UInt8.toNat_inj.1; have := Y.out; simp only [UInt8.toNat_zero]; omega))
        go_wp2_with fail
        go_roundw
        case rel => exact ⟨j + 1, by omega, by go_num, hs, trivial⟩
        case measure => simp [intOf]; omega
       ·have qy : (y != 0) = true := by simpa using hy
        have Hr := Lib.hid (show rRead l k = (rZero, 2) by
         have e5 : (l.getD 5 0).toNat = u := by have := X5.out; omega
         unfold rRead
         rw [if_neg (by have := Hl.out; omega), if_neg (by rw [Hs.out]; simp), if_neg (by rw [← X1.out, hk]; simp), e5, if_neg (by omega), any_true l (6 + u) (8 - u) j hlt (by have := Hl.out; omega) (by intro e0; apply hy; rw [Y.out, e0]; rfl)]
         rfl)
        go_wp2_with fail
        ((try simp only [Exit.inBlock, Exit.then]); refine bodyPost_ret (v := ?_) ?resultOf rfl ?_; case resultOf => (rw [results_cell_tmp rfl]; go_simp; rfl))
        rw [Hr.out]
        refine ⟨_, _, rfl, rfl, own_zero _ _, ?_⟩
        (repeat (with_reducible (first | assumption | exact Below.refl _ _ | refine Below.setCell ?_ (by simp <;> omega) _ | refine Below.alloc ?_ (by simp <;> omega) _ | refine Below.drew ?_ | refine below_drewN ?_ _)))
      ·have hju : j = 8 - u := by omega
       subst hju
       have i1 : ((8 - u : Nat) : Int) = ((14 - (6 + u) : Nat) : Int) := by omega
       have hcl : By V B (some ⟨b, o + 6, none⟩) u (c - 6) ((l.drop 6).take u) := by
        have := (hb.take (k := 6 + u) (by omega)).cut (k := 6) (by omega)
        rw [if_neg (by omega), List.drop_take] at this
        simpa [Addr.add] using this
       go_wp2_with fail
       have d7 : decide ((6 : Int) + (u : Int) ≤ (c : Int)) = true := by simp; omega
       have d8 : (6 : Int) + (u : Int) ≤ (c : Int) := by omega
       have d9 : max (6 + (u : Int)) 0 = 6 + (u : Int) := by omega
       have d10 : (6 : Int) ≤ 6 + (u : Int) := by omega
       have d11 : ((6 : Int) + (u : Int)).toNat = 6 + u := by omega
       have d12 : ¬ c = 6 := by omega
       rw [Nat.add_zero] at c0
       refine wp_region_ext 23 [0, 1, 2, 3, 4, 5, 6, 7, 8, 9, 10, 11, 12, 13, 15, 16, 17, 18, 20] true rfl (by kernel_rfl) (by kernel_rfl) ?_
       have hd : Below V.heap.size V V.drew := (Below.refl _ _).drew
       apply mixF 0 (by kernel_rfl) (by rfl) (by rfl)
       ·(intro w' hx; go_simp <;> with_reducible rfl)
       simp only [pA, pB, pC, pD]
       apply mixF 1 (by kernel_rfl) (by rfl) (by rfl)
       ·(intro w' hx; go_simp <;> with_reducible rfl)
       simp only [pA, pB, pC, pD]
       apply mixF 2 (by kernel_rfl) (by rfl) (by rfl)
       ·(intro w' hx; have q := (hx.cell (p := ⟨b, o, none⟩) (show b < V.heap.size by omega)).trans c0; go_simp <;> with_reducible rfl)
       simp only [pA, pB, pC, pD]
       apply mixF 3 (by kernel_rfl) (by rfl) (by rfl)
       ·(intro w' hx; go_simp <;> with_reducible rfl)
       simp only [pA, pB, pC, pD]
       apply mixF 4 (by kernel_rfl) (by rfl) (by rfl)
       ·(intro w' hx; go_simp <;> with_reducible rfl)
       simp only [pA, pB, pC, pD]
       apply mixF 5 (by kernel_rfl) (by rfl) (by rfl)
       ·(intro w' hx; go_simp <;> with_reducible rfl)
       simp only [pA, pB, pC, pD]
       apply mixF 6 (by kernel_rfl) (by rfl) (by rfl)
       ·(intro w' hx; have q := (hx.cell (p := ⟨b, o + 2, none⟩) (show b < V.heap.size by omega)).trans c2; go_simp <;> with_reducible rfl)
       simp only [pA, pB, pC, pD]
       apply mixF 7 (by kernel_rfl) (by rfl) (by rfl)
       ·(intro w' hx; go_simp <;> with_reducible rfl)
       simp only [pA, pB, pC, pD]
       apply mixF 8 (by kernel_rfl) (by rfl) (by rfl)
       ·(intro w' hx; go_simp <;> with_reducible rfl)
       simp only [pA, pB, pC, pD]
       apply mixF 9 (by kernel_rfl) (by rfl) (by rfl)
       ·(intro w' hx; go_simp <;> with_reducible rfl)
       simp only [pA, pB, pC, pD]
       apply mixF 10 (by kernel_rfl) (by rfl) (by rfl)
       ·(intro w' hx; have q := (hx.cell (p := ⟨b, o + 3, none⟩) (show b < V.heap.size by omega)).trans c3; go_simp <;> with_reducible rfl)
       simp only [pA, pB, pC, pD]
       apply mixF 11 (by kernel_rfl) (by rfl) (by rfl)
       ·(intro w' hx; go_simp <;> with_reducible rfl)
       simp only [pA, pB, pC, pD]
       apply mixF 12 (by kernel_rfl) (by rfl) (by rfl)
       ·(intro w' hx; go_simp <;> with_reducible rfl)
       simp only [pA, pB, pC, pD]
       apply mixF 13 (by kernel_rfl) (by rfl) (by rfl)
       ·(intro w' hx; have q := (hx.cell (p := ⟨b, o + 4, none⟩) (show b < V.heap.size by omega)).trans c4; go_simp <;> with_reducible rfl)
       simp only [pA, pB, pC, pD]
       apply mixF 15 (by kernel_rfl) (by rfl) (by rfl)
       ·(intro w' hx; go_simp <;> with_reducible rfl)
       simp only [pA, pB, pC, pD]
       apply mixF 16 (by kernel_rfl) (by rfl) (by rfl)
       ·(intro w' hx; go_simp <;> with_reducible rfl)
       simp only [pA, pB, pC, pD]
       apply mixF 17 (by kernel_rfl) (by rfl) (by rfl)
       ·(intro w' hx; go_simp <;> with_reducible rfl)
       simp only [pA, pB, pC, pD]
       apply mixF 18 (by kernel_rfl) (by rfl) (by rfl)
       ·(intro w' hx; go_simp <;> with_reducible rfl)
       simp only [pA, pB, pC, pD]
       refine mixS2 14 21 (by kernel_rfl) (by kernel_rfl) (by rfl) (by rfl) (by rfl) (by rfl) (fun K hK => ?_) (fun K hK => ?_)
       ·skip
        go_wp2_with (go_at_call 132; refine (number_w x3 x4 _ ⟨x30, x31⟩ ⟨x40, x41⟩).mono ?_; rintro e w1 ⟨rfl, rfl⟩)
        refine hK.out _ _ (Below.refl _ _) ?_
        clear hK K
        try simp only [pA, pB, pC, pD]
        refine mixS2 19 21 (by kernel_rfl) (by kernel_rfl) (by rfl) (by rfl) (by rfl) (by rfl) (fun K hK => ?_) (fun K hK => ?_)
        ·skip
         go_wp2_with (go_at_call 50; refine (clone_w _ (Sl.below hcl (hd.mono (by omega))) (by have := hd.size; omega) (by rw [blim_def]; omega)).mono ?_; rintro e w1 ⟨v1, rfl, hown, he1⟩; obtain ⟨A1, c1, rfl, hs1⟩ := own_shape hown)
         refine hK.out _ _ (he1) ?_
         clear hK K
         try simp only [pA, pB, pC, pD]
         have hownB := hown
         have hown := own_more (base' := V.heap.size) hown hd.size
         have hd := ext_trans hd he1
         apply mixF 20 (by kernel_rfl) (by rfl) (by rfl)
         ·(intro w' hx; go_simp <;> with_reducible rfl)
         simp only [pA, pB, pC, pD]
         refine mixS 21 (by kernel_rfl) (by kernel_rfl) (by rfl) (by rfl) (fun K hK => ?_)
         have hd1 := hd
         go_wp2
         refine hK.out _ _ (ext_alloc _ _) ?_
         clear hK K
         try simp only [pA, pB, pC, pD]
         obtain ⟨w5, hw5⟩ : ∃ w5, w5 = w1.alloc (.cells #[.int .i64 0, .int .i64 0, .int .i64 0, .slice none 0 0] 54) := ⟨_, rfl⟩
         first | rw [← hw5] | rw [show (V.alloc (.cells #[.int .i64 0, .int .i64 0, .int .i64 0, .slice none 0 0] 54)).drew = w5 by rw [hw5]; rfl]
         have he5 : Ext w1 w5 := by rw [hw5]; exact ext_alloc _ _
         have b9 : Box w5 w1.heap.size 54 #[.int .i64 0, .int .i64 0, .int .i64 0, .slice none 0 0] := by rw [hw5]; exact Box.new _ _ _ rfl
         have hd := ext_trans hd he5
         have hlt9 := b9.lt
         clear hw5
         have n0 := b9.cell 0 rfl
         have n1 := b9.cell 1 rfl
         have n2 := b9.cell 2 rfl
         have n3 := b9.cell 3 rfl
         have zn := b9.free
         refine mixLast 22 (by kernel_rfl) (by kernel_rfl) (by kernel_rfl) (by rfl) (by rfl) (fun K hK => ?_)
         have hK' := Lib.hid hK
         clear hK
         go_wp2
         refine hK'.out _ _ ?_
         clear hK' K n0 n1 n2 n3 zn
         refine NoPanic.normal ?_
         have hzG : V.heap.size ≤ w1.heap.size := by first | exact hd1.size | exact Nat.le_refl _
         obtain ⟨w6, hw6⟩ : ∃ w6, w6 = (((w5.setCell ⟨w1.heap.size, 0, none⟩ (.int .i64 x0)).setCell ⟨w1.heap.size, 1, none⟩ (.int .i64 x2)).setCell ⟨w1.heap.size, 2, none⟩ (.int .i64 (x3 * 256 + x4))).setCell ⟨w1.heap.size, 3, none⟩ (.slice A1 u c1) := ⟨_, rfl⟩
         rw [← hw6]
         have b9 : Box w6 w1.heap.size 54 #[.int .i64 x0, .int .i64 x2, .int .i64 (x3 * 256 + x4), .slice A1 u c1] := by
          rw [hw6]
          exact (((b9.set 0 _).set 1 _).set 2 _).set 3 _
         have hd6 : Below V.heap.size V w6 := by rw [hw6]; (repeat (with_reducible (first | assumption | exact Below.refl _ _ | refine Below.setCell ?_ (by simp <;> omega) _ | refine Below.alloc ?_ (by simp <;> omega) _ | refine Below.drew ?_ | refine below_drewN ?_ _)))
         have he6 : Ext w1 w6 := by rw [hw6]; have he5 : Below w1.heap.size w1 w5 := he5; (repeat (with_reducible (first | assumption | exact Below.refl _ _ | refine Below.setCell ?_ (by simp <;> omega) _ | refine Below.alloc ?_ (by simp <;> omega) _ | refine Below.drew ?_ | refine below_drewN ?_ _)))
         have own6 := own_ext hown he6
         clear hw6 hd
         have bR6 := bR.below hd6 (by omega)
         clear bR r0 r1 r2 r3 z0
         have n0 := b9.cell 0 rfl
         have n1 := b9.cell 1 rfl
         have n2 := b9.cell 2 rfl
         have n3 := b9.cell 3 rfl
         go_wp2_with fail
         refine (wrong_w (r := ⟨x0, x2, x3 * 256 + x4, (l.drop 6).take u⟩) _ (Sl.of_own own6)).mono ?_
         rintro e w7 ⟨rfl, he7⟩
         obtain ⟨z, hz⟩ : ∃ z, z = rWrong ⟨x0, x2, x3 * 256 + x4, (l.drop 6).take u⟩ := ⟨_, rfl⟩
         rw [← hz]
         have hT : rTold l = ⟨x0, x2, x3 * 256 + x4, (l.drop 6).take u⟩ := by
          unfold rTold sNum
          rw [← X0.out, ← X2.out, ← X3.out, ← X4.out]
          have e5 : (l.getD 5 0).toNat = u := by have := X5.out; omega
          rw [e5]
         have hR : rRead l k = if rWrong (rTold l) ≠ 0 then (rZero, rWrong (rTold l)) else (rTold l, 0) := by
          have e5 : (l.getD 5 0).toNat = u := by have := X5.out; omega
          unfold rRead
          rw [if_neg (by have := Hl.out; omega), if_neg (by rw [Hs.out]; simp), if_neg (by rw [← X1.out, hk]; simp), e5, if_neg (by omega), ha.out]
          rfl
         rw [hT, ← hz] at hR
         have b9 := b9.ext he7
         have bR6 := bR6.ext he7
         have own7 := own_ext own6 he7
         have hd7 : Below w.heap.size w w7 := he.trans ((hd6.mono (by omega)).trans (he7.mono (by have := hd6.size; omega)))
         have n0 := b9.cell 0 rfl
         have n1 := b9.cell 1 rfl
         have n2 := b9.cell 2 rfl
         have n3 := b9.cell 3 rfl
         have r0 := bR6.cell 0 rfl
         have r1 := bR6.cell 1 rfl
         have r2 := bR6.cell 2 rfl
         have r3 := bR6.cell 3 rfl
         have zr := bR6.free
         by_cases hz0 : z = 0
         ·subst hz0
          have Hr : Hid (rRead l k = (⟨x0, x2, x3 * 256 + x4, (l.drop 6).take u⟩, 0)) := by rw [hR]; rfl
          have Hlu : Hid (((l.drop 6).take u).length = u) := by
           show _ = _
           have := Hl.out
           rw [List.length_take, List.length_drop]
           omega
          clear hR hT hz hs1 own6 hownB
          go_wp2
          ((try simp only [Exit.inBlock, Exit.then]); refine bodyPost_ret (v := ?_) ?resultOf rfl ?_; case resultOf => (rw [results_cell_tmp rfl]; go_simp; rfl))
          rw [Hr.out]
          refine ⟨_, _, rfl, rfl, ⟨A1, c1, ?_, ?_⟩, ?_⟩
          ·rw [Hlu.out]
          ·rw [Hlu.out]
           refine own_more (base := V.heap.size) ?_ (by omega)
           (repeat (with_reducible (first | assumption | refine own_set ?_ (by simp <;> omega) _ | refine own_alloc ?_ _)))
          ·(repeat (with_reducible (first | assumption | exact Below.refl _ _ | refine Below.setCell ?_ (by simp <;> omega) _ | refine Below.alloc ?_ (by simp <;> omega) _ | refine Below.drew ?_ | refine below_drewN ?_ _)))
         ·have qz : (z != 0) = true := by simpa using hz0
          have Hr : Hid (rRead l k = (rZero, z)) := by show _ = _; rw [hR, if_pos hz0]
          clear hR hT hz hs1 own6 hownB
          go_wp2
          ((try simp only [Exit.inBlock, Exit.then]); refine bodyPost_ret (v := ?_) ?resultOf rfl ?_; case resultOf => (rw [results_cell_tmp rfl]; go_simp; rfl))
          rw [Hr.out]
          refine ⟨_, _, rfl, rfl, own_zero _ _, ?_⟩
          (repeat (with_reducible (first | assumption | exact Below.refl _ _ | refine Below.setCell ?_ (by simp <;> omega) _ | refine Below.alloc ?_ (by simp <;> omega) _ | refine Below.drew ?_ | refine below_drewN ?_ _)))
        ·skip
         go_wp2
         refine hK.out _ _ (ext_alloc _ _) ?_
         clear hK K
         try simp only [pA, pB, pC, pD]
         obtain ⟨w5, hw5⟩ : ∃ w5, w5 = V.drew.alloc (.cells #[.int .i64 0, .int .i64 0, .int .i64 0, .slice none 0 0] 54) := ⟨_, rfl⟩
         first | rw [← hw5] | rw [show (V.alloc (.cells #[.int .i64 0, .int .i64 0, .int .i64 0, .slice none 0 0] 54)).drew = w5 by rw [hw5]; rfl]
         have he5 : Ext V.drew w5 := by rw [hw5]; exact ext_alloc _ _
         have b9 : Box w5 V.heap.size 54 #[.int .i64 0, .int .i64 0, .int .i64 0, .slice none 0 0] := by rw [hw5]; exact Box.new _ _ _ rfl
         have hd := ext_trans hd he5
         have hlt9 := b9.lt
         clear hw5
         refine mixS 19 (by kernel_rfl) (by kernel_rfl) (by rfl) (by rfl) (fun K hK => ?_)
         go_wp2_with (go_at_call 50; refine (clone_w _ (Sl.below hcl (hd.mono (by omega))) (by have := hd.size; omega) (by rw [blim_def]; omega)).mono ?_; rintro e w1 ⟨v1, rfl, hown, he1⟩; obtain ⟨A1, c1, rfl, hs1⟩ := own_shape hown)
         refine hK.out _ _ (he1) ?_
         clear hK K
         try simp only [pA, pB, pC, pD]
         have hownB := hown
         have hown := own_more (base' := V.heap.size) hown hd.size
         have hd := ext_trans hd he1
         have b9 := b9.ext he1
         apply mixF 20 (by kernel_rfl) (by rfl) (by rfl)
         ·(intro w' hx; go_simp <;> with_reducible rfl)
         simp only [pA, pB, pC, pD]
         have n0 := b9.cell 0 rfl
         have n1 := b9.cell 1 rfl
         have n2 := b9.cell 2 rfl
         have n3 := b9.cell 3 rfl
         have zn := b9.free
         refine mixLast 22 (by kernel_rfl) (by kernel_rfl) (by kernel_rfl) (by rfl) (by rfl) (fun K hK => ?_)
         have hK' := Lib.hid hK
         clear hK
         go_wp2
         refine hK'.out _ _ ?_
         clear hK' K n0 n1 n2 n3 zn
         refine NoPanic.normal ?_
         have hzG : V.heap.size ≤ V.heap.size := by first | exact hd1.size | exact Nat.le_refl _
         obtain ⟨w6, hw6⟩ : ∃ w6, w6 = (((w1.setCell ⟨V.heap.size, 0, none⟩ (.int .i64 x0)).setCell ⟨V.heap.size, 1, none⟩ (.int .i64 x2)).setCell ⟨V.heap.size, 2, none⟩ (.int .i64 (x3 * 256 + x4))).setCell ⟨V.heap.size, 3, none⟩ (.slice A1 u c1) := ⟨_, rfl⟩
         rw [← hw6]
         have b9 : Box w6 V.heap.size 54 #[.int .i64 x0, .int .i64 x2, .int .i64 (x3 * 256 + x4), .slice A1 u c1] := by
          rw [hw6]
          exact (((b9.set 0 _).set 1 _).set 2 _).set 3 _
         have hd6 : Below V.heap.size V w6 := by rw [hw6]; (repeat (with_reducible (first | assumption | exact Below.refl _ _ | refine Below.setCell ?_ (by simp <;> omega) _ | refine Below.alloc ?_ (by simp <;> omega) _ | refine Below.drew ?_ | refine below_drewN ?_ _)))
         have own6 : w6.ownsRow V.heap.size 5 1 (.slice A1 u c1) u (u8s ((l.drop 6).take u)) := by
          rw [hw6]
          exact own_more (own_set (own_set (own_set (own_set hownB hlt9 _) hlt9 _) hlt9 _) hlt9 _) (by omega)
         clear hw6 hd
         have bR6 := bR.below hd6 (by omega)
         clear bR r0 r1 r2 r3 z0
         have n0 := b9.cell 0 rfl
         have n1 := b9.cell 1 rfl
         have n2 := b9.cell 2 rfl
         have n3 := b9.cell 3 rfl
         go_wp2_with fail
         refine (wrong_w (r := ⟨x0, x2, x3 * 256 + x4, (l.drop 6).take u⟩) _ (Sl.of_own own6)).mono ?_
         rintro e w7 ⟨rfl, he7⟩
         obtain ⟨z, hz⟩ : ∃ z, z = rWrong ⟨x0, x2, x3 * 256 + x4, (l.drop 6).take u⟩ := ⟨_, rfl⟩
         rw [← hz]
         have hT : rTold l = ⟨x0, x2, x3 * 256 + x4, (l.drop 6).take u⟩ := by
          unfold rTold sNum
          rw [← X0.out, ← X2.out, ← X3.out, ← X4.out]
          have e5 : (l.getD 5 0).toNat = u := by have := X5.out; omega
          rw [e5]
         have hR : rRead l k = if rWrong (rTold l) ≠ 0 then (rZero, rWrong (rTold l)) else (rTold l, 0) := by
          have e5 : (l.getD 5 0).toNat = u := by have := X5.out; omega
          unfold rRead
          rw [if_neg (by have := Hl.out; omega), if_neg (by rw [Hs.out]; simp), if_neg (by rw [← X1.out, hk]; simp), e5, if_neg (by omega), ha.out]
          rfl
         rw [hT, ← hz] at hR
         have b9 := b9.ext he7
         have bR6 := bR6.ext he7
         have own7 := own_ext own6 he7
         have hd7 : Below w.heap.size w w7 := he.trans ((hd6.mono (by omega)).trans (he7.mono (by have := hd6.size; omega)))
         have n0 := b9.cell 0 rfl
         have n1 := b9.cell 1 rfl
         have n2 := b9.cell 2 rfl
         have n3 := b9.cell 3 rfl
         have r0 := bR6.cell 0 rfl
         have r1 := bR6.cell 1 rfl
         have r2 := bR6.cell 2 rfl
         have r3 := bR6.cell 3 rfl
         have zr := bR6.free
         by_cases hz0 : z = 0
         ·subst hz0
          have Hr : Hid (rRead l k = (⟨x0, x2, x3 * 256 + x4, (l.drop 6).take u⟩, 0)) := by rw [hR]; rfl
          have Hlu : Hid (((l.drop 6).take u).length = u) := by
           show _ = _
           have := Hl.out
           rw [List.length_take, List.length_drop]
           omega
          clear hR hT hz hs1 own6 hownB
          go_wp2
          ((try simp only [Exit.inBlock, Exit.then]); refine bodyPost_ret (v := ?_) ?resultOf rfl ?_; case resultOf => (rw [results_cell_tmp rfl]; go_simp; rfl))
          rw [Hr.out]
          refine ⟨_, _, rfl, rfl, ⟨A1, c1, ?_, ?_⟩, ?_⟩
          ·rw [Hlu.out]
          ·rw [Hlu.out]
           refine own_more (base := V.heap.size) ?_ (by omega)
           (repeat (with_reducible (first | assumption | refine own_set ?_ (by simp <;> omega) _ | refine own_alloc ?_ _)))
          ·(repeat (with_reducible (first | assumption | exact Below.refl _ _ | refine Below.setCell ?_ (by simp <;> omega) _ | refine Below.alloc ?_ (by simp <;> omega) _ | refine Below.drew ?_ | refine below_drewN ?_ _)))
         ·have qz : (z != 0) = true := by simpa using hz0
          have Hr : Hid (rRead l k = (rZero, z)) := by show _ = _; rw [hR, if_pos hz0]
          clear hR hT hz hs1 own6 hownB
          go_wp2
          ((try simp only [Exit.inBlock, Exit.then]); refine bodyPost_ret (v := ?_) ?resultOf rfl ?_; case resultOf => (rw [results_cell_tmp rfl]; go_simp; rfl))
          rw [Hr.out]
          refine ⟨_, _, rfl, rfl, own_zero _ _, ?_⟩
          (repeat (with_reducible (first | assumption | exact Below.refl _ _ | refine Below.setCell ?_ (by simp <;> omega) _ | refine Below.alloc ?_ (by simp <;> omega) _ | refine Below.drew ?_ | refine below_drewN ?_ _)))
       ·skip
        go_wp2
        refine hK.out _ _ (ext_alloc _ _) ?_
        clear hK K
        try simp only [pA, pB, pC, pD]
        obtain ⟨w5, hw5⟩ : ∃ w5, w5 = V.drew.alloc (.cells #[.int .i64 0, .int .i64 0, .int .i64 0, .slice none 0 0] 54) := ⟨_, rfl⟩
        first | rw [← hw5] | rw [show (V.alloc (.cells #[.int .i64 0, .int .i64 0, .int .i64 0, .slice none 0 0] 54)).drew = w5 by rw [hw5]; rfl]
        have he5 : Ext V.drew w5 := by rw [hw5]; exact ext_alloc _ _
        have b9 : Box w5 V.heap.size 54 #[.int .i64 0, .int .i64 0, .int .i64 0, .slice none 0 0] := by rw [hw5]; exact Box.new _ _ _ rfl
        have hd := ext_trans hd he5
        have hlt9 := b9.lt
        clear hw5
        refine mixS 14 (by kernel_rfl) (by kernel_rfl) (by rfl) (by rfl) (fun K hK => ?_)
        go_wp2_with (go_at_call 132; refine (number_w x3 x4 _ ⟨x30, x31⟩ ⟨x40, x41⟩).mono ?_; rintro e w1 ⟨rfl, rfl⟩)
        refine hK.out _ _ (Below.refl _ _) ?_
        clear hK K
        try simp only [pA, pB, pC, pD]
        refine mixS 19 (by kernel_rfl) (by kernel_rfl) (by rfl) (by rfl) (fun K hK => ?_)
        go_wp2_with (go_at_call 50; refine (clone_w _ (Sl.below hcl (hd.mono (by omega))) (by have := hd.size; omega) (by rw [blim_def]; omega)).mono ?_; rintro e w1 ⟨v1, rfl, hown, he1⟩; obtain ⟨A1, c1, rfl, hs1⟩ := own_shape hown)
        refine hK.out _ _ (he1) ?_
        clear hK K
        try simp only [pA, pB, pC, pD]
        have hownB := hown
        have hown := own_more (base' := V.heap.size) hown hd.size
        have hd := ext_trans hd he1
        have b9 := b9.ext he1
        apply mixF 20 (by kernel_rfl) (by rfl) (by rfl)
        ·(intro w' hx; go_simp <;> with_reducible rfl)
        simp only [pA, pB, pC, pD]
        have n0 := b9.cell 0 rfl
        have n1 := b9.cell 1 rfl
        have n2 := b9.cell 2 rfl
        have n3 := b9.cell 3 rfl
        have zn := b9.free
        refine mixLast 22 (by kernel_rfl) (by kernel_rfl) (by kernel_rfl) (by rfl) (by rfl) (fun K hK => ?_)
        have hK' := Lib.hid hK
        clear hK
        go_wp2
        refine hK'.out _ _ ?_
        clear hK' K n0 n1 n2 n3 zn
        refine NoPanic.normal ?_
        have hzG : V.heap.size ≤ V.heap.size := by first | exact hd1.size | exact Nat.le_refl _
        obtain ⟨w6, hw6⟩ : ∃ w6, w6 = (((w1.setCell ⟨V.heap.size, 0, none⟩ (.int .i64 x0)).setCell ⟨V.heap.size, 1, none⟩ (.int .i64 x2)).setCell ⟨V.heap.size, 2, none⟩ (.int .i64 (x3 * 256 + x4))).setCell ⟨V.heap.size, 3, none⟩ (.slice A1 u c1) := ⟨_, rfl⟩
        rw [← hw6]
        have b9 : Box w6 V.heap.size 54 #[.int .i64 x0, .int .i64 x2, .int .i64 (x3 * 256 + x4), .slice A1 u c1] := by
         rw [hw6]
         exact (((b9.set 0 _).set 1 _).set 2 _).set 3 _
        have hd6 : Below V.heap.size V w6 := by rw [hw6]; (repeat (with_reducible (first | assumption | exact Below.refl _ _ | refine Below.setCell ?_ (by simp <;> omega) _ | refine Below.alloc ?_ (by simp <;> omega) _ | refine Below.drew ?_ | refine below_drewN ?_ _)))
        have own6 : w6.ownsRow V.heap.size 5 1 (.slice A1 u c1) u (u8s ((l.drop 6).take u)) := by
         rw [hw6]
         exact own_more (own_set (own_set (own_set (own_set hownB hlt9 _) hlt9 _) hlt9 _) hlt9 _) (by omega)
        clear hw6 hd
        have bR6 := bR.below hd6 (by omega)
        clear bR r0 r1 r2 r3 z0
        have n0 := b9.cell 0 rfl
        have n1 := b9.cell 1 rfl
        have n2 := b9.cell 2 rfl
        have n3 := b9.cell 3 rfl
        go_wp2_with fail
        refine (wrong_w (r := ⟨x0, x2, x3 * 256 + x4, (l.drop 6).take u⟩) _ (Sl.of_own own6)).mono ?_
        rintro e w7 ⟨rfl, he7⟩
        obtain ⟨z, hz⟩ : ∃ z, z = rWrong ⟨x0, x2, x3 * 256 + x4, (l.drop 6).take u⟩ := ⟨_, rfl⟩
        rw [← hz]
        have hT : rTold l = ⟨x0, x2, x3 * 256 + x4, (l.drop 6).take u⟩ := by
         unfold rTold sNum
         rw [← X0.out, ← X2.out, ← X3.out, ← X4.out]
         have e5 : (l.getD 5 0).toNat = u := by have := X5.out; omega
         rw [e5]
        have hR : rRead l k = if rWrong (rTold l) ≠ 0 then (rZero, rWrong (rTold l)) else (rTold l, 0) := by
         have e5 : (l.getD 5 0).toNat = u := by have := X5.out; omega
         unfold rRead
         rw [if_neg (by have := Hl.out; omega), if_neg (by rw [Hs.out]; simp), if_neg (by rw [← X1.out, hk]; simp), e5, if_neg (by omega), ha.out]
         rfl
        rw [hT, ← hz] at hR
        have b9 := b9.ext he7
        have bR6 := bR6.ext he7
        have own7 := own_ext own6 he7
        have hd7 : Below w.heap.size w w7 := he.trans ((hd6.mono (by omega)).trans (he7.mono (by have := hd6.size; omega)))
        have n0 := b9.cell 0 rfl
        have n1 := b9.cell 1 rfl
        have n2 := b9.cell 2 rfl
        have n3 := b9.cell 3 rfl
        have r0 := bR6.cell 0 rfl
        have r1 := bR6.cell 1 rfl
        have r2 := bR6.cell 2 rfl
        have r3 := bR6.cell 3 rfl
        have zr := bR6.free
        by_cases hz0 : z = 0
        ·subst hz0
         have Hr : Hid (rRead l k = (⟨x0, x2, x3 * 256 + x4, (l.drop 6).take u⟩, 0)) := by rw [hR]; rfl
         have Hlu : Hid (((l.drop 6).take u).length = u) := by
          show _ = _
          have := Hl.out
          rw [List.length_take, List.length_drop]
          omega
         clear hR hT hz hs1 own6 hownB
         go_wp2
         ((try simp only [Exit.inBlock, Exit.then]); refine bodyPost_ret (v := ?_) ?resultOf rfl ?_; case resultOf => (rw [results_cell_tmp rfl]; go_simp; rfl))
         rw [Hr.out]
         refine ⟨_, _, rfl, rfl, ⟨A1, c1, ?_, ?_⟩, ?_⟩
         ·rw [Hlu.out]
         ·rw [Hlu.out]
          refine own_more (base := V.heap.size) ?_ (by omega)
          (repeat (with_reducible (first | assumption | refine own_set ?_ (by simp <;> omega) _ | refine own_alloc ?_ _)))
         ·(repeat (with_reducible (first | assumption | exact Below.refl _ _ | refine Below.setCell ?_ (by simp <;> omega) _ | refine Below.alloc ?_ (by simp <;> omega) _ | refine Below.drew ?_ | refine below_drewN ?_ _)))
        ·have qz : (z != 0) = true := by simpa using hz0
         have Hr : Hid (rRead l k = (rZero, z)) := by show _ = _; rw [hR, if_pos hz0]
         clear hR hT hz hs1 own6 hownB
         go_wp2
         ((try simp only [Exit.inBlock, Exit.then]); refine bodyPost_ret (v := ?_) ?resultOf rfl ?_; case resultOf => (rw [results_cell_tmp rfl]; go_simp; rfl))
         rw [Hr.out]
         refine ⟨_, _, rfl, rfl, own_zero _ _, ?_⟩
         (repeat (with_reducible (first | assumption | exact Below.refl _ _ | refine Below.setCell ?_ (by simp <;> omega) _ | refine Below.alloc ?_ (by simp <;> omega) _ | refine Below.drew ?_ | refine below_drewN ?_ _)))
    ·have Hr := Lib.hid (show rRead l k = (rZero, 4) by unfold rRead; rw [if_neg (by have := Hl.out; omega), if_neg (by rw [Hs.out]; simp), if_neg (by rw [← X1.out, hk]; simp), if_pos (by have := X5.out; omega)])
     have q2 : decide ((8 : Int) < (u : Int)) = true := by simp; omega
     go_wp2
     ((try simp only [Exit.inBlock, Exit.then]); refine bodyPost_ret (v := ?_) ?resultOf rfl ?_; case resultOf => (rw [results_cell_tmp rfl]; go_simp; rfl))
     rw [Hr.out]
     refine ⟨_, _, rfl, rfl, own_zero _ _, ?_⟩
     (repeat (with_reducible (first | assumption | exact Below.refl _ _ | refine Below.setCell ?_ (by simp <;> omega) _ | refine Below.alloc ?_ (by simp <;> omega) _ | refine Below.drew ?_ | refine below_drewN ?_ _)))
   ·have Hr := Lib.hid (show rRead l k = (rZero, 8) by unfold rRead; rw [if_neg (by have := Hl.out; omega), if_neg (by rw [Hs.out]; simp), if_pos (by rw [← X1.out]; exact hk)])
    have q1 : (x1 != k) = true := by simpa using hk
    go_wp2
    ((try simp only [Exit.inBlock, Exit.then]); refine bodyPost_ret (v := ?_) ?resultOf rfl ?_; case resultOf => (rw [results_cell_tmp rfl]; go_simp; rfl))
    rw [Hr.out]
    refine ⟨_, _, rfl, rfl, own_zero _ _, ?_⟩
    (repeat (with_reducible (first | assumption | exact Below.refl _ _ | refine Below.setCell ?_ (by simp <;> omega) _ | refine Below.alloc ?_ (by simp <;> omega) _ | refine Below.drew ?_ | refine below_drewN ?_ _)))
 ·have q1 : ((n : Int) != 16) = true := by rw [bne_iff_ne]; omega
  have Hr := Lib.hid (show rRead l k = (rZero, 2) by unfold rRead; rw [if_pos (by omega)])
  go_enter Tryz.func104, Tryz.ntmps104
  go_wp2
  ((try simp only [Exit.inBlock, Exit.then]); refine bodyPost_ret (v := ?_) ?resultOf rfl ?_; case resultOf => (rw [results_cell_tmp rfl]; go_simp; rfl))
  rw [Hr.out]
  refine ⟨_, _, rfl, rfl, own_zero _ _, ?_⟩
  (repeat (with_reducible (first | assumption | exact Below.refl _ _ | refine Below.setCell ?_ (by simp <;> omega) _ | refine Below.alloc ?_ (by simp <;> omega) _ | refine Below.drew ?_ | refine below_drewN ?_ _)))
end Go.Proofs.YtdmnmfnmaccmoaaGreatDoor
/- Walks: a block's record read, the document's. -/
namespace Go.Proofs.YtdmnmfnmaccmoaaGreatDoor
open Go Go.RowKit
end Go.Proofs.YtdmnmfnmaccmoaaGreatDoor
/- Walks: a record's bytes, the document's. -/
namespace Go.Proofs.YtdmnmfnmaccmoaaGreatDoor
open Go Go.RowKit
end Go.Proofs.YtdmnmfnmaccmoaaGreatDoor
/- Walks: disk.Put. -/
namespace Go.Proofs.YtdmnmfnmaccmoaaGreatDoor
open Go Go.RowKit
set_option maxRecDepth 100000 in
set_option maxHeartbeats 4000000 in
theorem dskPut_v {T : List TypeId} {base base' : Nat} {v u : Value} {d : Dsk} {k : Int} {l : List UInt8} {w : World} (h : DskV T w base v d) (hk : DskOk d) (hf : ByT w base' u l) :
  Calls Tryz.prog 70 #[v, .int .i64 k, u] w fun e w' => ∃ v' q, e = .returned (.tuple #[v', .int .i64 q]) ∧ q = (dPut d k l).2 ∧ OwnD w w' v' (dPut d k l).1 ∧ Ext w w' := by
 have Hk := Lib.hid hk
 obtain ⟨F, c2, rfl, hf1⟩ := hf.by_
 obtain ⟨A, c, E, m, rfl, h0⟩ := h.at_
 clear h hf
 obtain ⟨n2, hN2⟩ : ∃ n, n = l.length := ⟨_, rfl⟩
 obtain ⟨n, hN⟩ : ∃ n, n = d.blocks.length := ⟨_, rfl⟩
 obtain ⟨e, hE⟩ : ∃ n, n = d.late.length := ⟨_, rfl⟩
 rw [← hN2] at hf1 ⊢
 rw [← hN, ← hE] at h0 ⊢
 have HN := Lib.hid hN
 have HN2 := Lib.hid hN2
 have HE := Lib.hid hE
 have he4 : e ≤ 4096 := by have := hk.late; omega
 have hp : ∀ v, dPut d k l = v → Hid (dPut d k l = v) := fun _ h => h
 clear hN hN2 hE hk
 go_enter Tryz.func70, Tryz.ntmps70
 go_wp2_with fail
 obtain ⟨W, hW⟩ : ∃ W, W = (w.alloc (.cells #[.slice A n c, .slice E e m] 27)).alloc (.cells #[.slice none 0 0, .slice none 0 0] 27) := ⟨_, rfl⟩
 rw [← hW]
 have bp : Box W w.heap.size 27 #[.slice A n c, .slice E e m] := by rw [hW]; exact (Box.new w _ _ rfl).alloc _
 have bR : Box W (w.heap.size + 1) 27 #[.slice none 0 0, .slice none 0 0] := by rw [hW]; exact Box.new _ _ _ (size_alloc _ _).symm
 have hwW : Ext w W := by rw [hW]; exact ext_trans (ext_alloc _ _) (ext_alloc _ _)
 have hzW : W.heap.size = w.heap.size + 2 := by rw [hW]; simp
 clear hW
 refine (dskOwn_v (T := []) (DskV.of_at (h0.below (hwW.mono (Nat.le_refl _))) (Nat.le_refl _) (by omega)) Hk.out).mono ?_
 rintro e0 w1 ⟨_, rfl, ⟨vb, vl, rfl, hob, hol⟩, he1⟩
 obtain ⟨A1, c1, hvb⟩ := hob.shape
 obtain ⟨A2, c3, hvl⟩ := hol.shape
 rw [← HN.out] at hvb
 rw [← HE.out] at hvl
 subst hvb hvl
 have hz1 := he1.size
 have hlt0 : w.heap.size < w1.heap.size := by omega
 have hlt1 : w.heap.size + 1 < w1.heap.size := by omega
 have bp1 := bp.ext he1
 have bR1 := bR.ext he1
 obtain ⟨m0, m1⟩ := bp1.cells2
 obtain ⟨r0, r1⟩ := bR1.cells2
 have zR := bR1.free
 have kR := bR1.kd
 have hww : Ext w w1 := ext_trans hwW he1
 clear bp bR
 by_cases hlo : k < 0 ∨ (n : Int) ≤ k
 ·have HP := hp (d, 3) (by unfold dPut; rw [if_pos (by rw [← HN.out]; exact hlo)])
  have hk1 : k < 0 ∨ (¬ k < 0 ∧ (n : Int) ≤ k) := by omega
  rcases hk1 with hk1 | ⟨hk1, hk2⟩
  ·have q1 : decide (k < 0) = true := by simpa using hk1
   clear hlo hk1
   go_wp2
   ((try simp only [Exit.inBlock, Exit.then]); refine bodyPost_ret (v := ?_) ?resultOf rfl ?_; case resultOf => (rw [results_cell_tmp rfl]; go_simp; rfl))
   rw [HP.out]
   refine ⟨_, _, rfl, rfl, ⟨_, _, rfl, (hob.kB (by (repeat (with_reducible (first | assumption | exact Kept.refl _ _ _ | (apply Kept.setK; rotate_left; (repeat (first | assumption | apply Kd.set | apply Kd.alloc | apply Kd.drew)); decide; omega) | refine Kept.allocK ?_ _ | refine Kept.drewK ?_))))).more (by omega) (Nat.le_refl _), (hol.kW (by (repeat (with_reducible (first | assumption | exact Kept.refl _ _ _ | (apply Kept.setK; rotate_left; (repeat (first | assumption | apply Kd.set | apply Kd.alloc | apply Kd.drew)); decide; omega) | refine Kept.allocK ?_ _ | refine Kept.drewK ?_))))).more (by omega) (Nat.le_refl _)⟩, ?_⟩
   (repeat (with_reducible (first | assumption | exact Below.refl _ _ | refine Below.setCell ?_ (by simp <;> omega) _ | refine Below.alloc ?_ (by simp <;> omega) _ | refine Below.drew ?_ | refine below_drewN ?_ _)))
  ·have q1 : decide (k < 0) = false := by simpa using hk1
   have q2 : decide ((n : Int) ≤ k) = true := by simpa using hk2
   clear hlo hk1
   go_wp2
   ((try simp only [Exit.inBlock, Exit.then]); refine bodyPost_ret (v := ?_) ?resultOf rfl ?_; case resultOf => (rw [results_cell_tmp rfl]; go_simp; rfl))
   rw [HP.out]
   refine ⟨_, _, rfl, rfl, ⟨_, _, rfl, (hob.kB (by (repeat (with_reducible (first | assumption | exact Kept.refl _ _ _ | (apply Kept.setK; rotate_left; (repeat (first | assumption | apply Kd.set | apply Kd.alloc | apply Kd.drew)); decide; omega) | refine Kept.allocK ?_ _ | refine Kept.drewK ?_))))).more (by omega) (Nat.le_refl _), (hol.kW (by (repeat (with_reducible (first | assumption | exact Kept.refl _ _ _ | (apply Kept.setK; rotate_left; (repeat (first | assumption | apply Kd.set | apply Kd.alloc | apply Kd.drew)); decide; omega) | refine Kept.allocK ?_ _ | refine Kept.drewK ?_))))).more (by omega) (Nat.le_refl _)⟩, ?_⟩
   (repeat (with_reducible (first | assumption | exact Below.refl _ _ | refine Below.setCell ?_ (by simp <;> omega) _ | refine Below.alloc ?_ (by simp <;> omega) _ | refine Below.drew ?_ | refine below_drewN ?_ _)))
 ·have q1 : decide (k < 0) = false := by simp; omega
  have q2 : decide ((n : Int) ≤ k) = false := by simp; omega
  by_cases h16 : n2 = 16
  ·have HP := hp (⟨d.blocks, d.late ++ [(k, l)]⟩, 0) (by unfold dPut; rw [if_neg (by rw [← HN.out]; exact hlo), if_neg (by rw [← HN2.out]; simpa using h16)])
   clear hlo
   subst h16
   go_wp2_with fail
   obtain ⟨w2, hw2⟩ : ∃ w2, w2 = w1.alloc (.cells #[.slice A1 n c1, .slice A2 e c3] 27) := ⟨_, rfl⟩
   rw [← hw2]
   have b8_ : Box w2 w1.heap.size 27 #[.slice A1 n c1, .slice A2 e c3] := by rw [hw2]; exact Box.new _ _ _ rfl
   have he2 : Ext w1 w2 := by rw [hw2]; exact ext_alloc _ _
   have hz2 : w2.heap.size = w1.heap.size + 1 := by rw [hw2]; simp
   clear hw2
   refine wp_region_keep W.heap.size [w1.heap.size] 10 [0, 1, 2, 3, 5, 8] true rfl (by kernel_rfl) (by kernel_rfl) ?_
   obtain ⟨D, hD⟩ : ∃ D, D = w2.drew := ⟨_, rfl⟩
   rw [← hD]
   have bD : Box D w1.heap.size 27 #[.slice A1 n c1, .slice A2 e c3] := by rw [hD]; exact b8_
   have hwD : Ext w1 D := by rw [hD]; exact he2.drew
   have hzD : D.heap.size = w1.heap.size + 1 := by rw [hD]; exact hz2
   clear hD he2 b8_ hz2
   have hobD := hob.ext hwD
   have holD := hol.ext hwD
   have hyD : By D w.heap.size F 16 c2 l := Sl.below hf1 (ext_trans hww hwD)
   have bRD := bR1.ext hwD
   apply mixF 0 (by kernel_rfl) (by rfl) (by rfl)
   ·(intro w' hx; go_simp <;> with_reducible rfl)
   simp only [pA, pB, pC, pD]
   apply mixF 1 (by kernel_rfl) (by rfl) (by rfl)
   ·(intro w' hx; have q := (bD.xk hx (by simp)).cell 1 rfl; go_simp <;> with_reducible rfl)
   simp only [pA, pB, pC, pD]
   apply mixF 2 (by kernel_rfl) (by rfl) (by rfl)
   ·(intro w' hx; go_simp <;> with_reducible rfl)
   simp only [pA, pB, pC, pD]
   apply mixF 3 (by kernel_rfl) (by rfl) (by rfl)
   ·(intro w' hx; go_simp <;> with_reducible rfl)
   simp only [pA, pB, pC, pD]
   refine mixS 4 (by kernel_rfl) (by kernel_rfl) (by rfl) (by rfl) (fun K hK => ?_)
   go_wp2_with (go_at_call 50; refine (clone_w _ hyD (by omega) (by rw [blim_def]; omega)).mono ?_; rintro e w3 ⟨v1, rfl, own1, he3⟩; obtain ⟨A3, c4, rfl, hs1⟩ := own_shape own1)
   refine hK.out _ _ (XK.ext he3 (by omega) (by simp; omega)) ?_
   clear hK K
   try simp only [pA, pB, pC, pD]
   have hz3 := he3.size
   apply mixF 5 (by kernel_rfl) (by rfl) (by rfl)
   ·(intro w' hx; go_simp <;> with_reducible rfl)
   simp only [pA, pB, pC, pD]
   refine mixS 6 (by kernel_rfl) (by kernel_rfl) (by rfl) (by rfl) (fun K hK => ?_)
   go_wp2
   refine hK.out _ _ (XK.ext (ext_alloc _ _) (by omega) (by simp; omega)) ?_
   clear hK K
   try simp only [pA, pB, pC, pD]
   obtain ⟨w4, hw4⟩ : ∃ w4, w4 = w3.alloc (.cells #[.int .i64 k, .slice A3 16 c4] 104) := ⟨_, rfl⟩
   rw [← hw4]
   have he4 : Ext w3 w4 := by rw [hw4]; exact ext_alloc _ _
   have hs4 : Sl w4 w4.heap.size 2 (some ⟨w3.heap.size, 0, none⟩) 1 1 [.int .i64 k, .slice A3 16 c4] := by rw [hw4]; exact Sl.new _ _ _ _ 2 1 rfl (by unfold maxLen; omega) (by simp)
   have hz4 := he4.size
   clear hw4
   have hD4 : Ext D w4 := ext_trans he3 he4
   have hol4 := holD.ext hD4
   have hob4 := hobD.ext hD4
   have b84 := bD.ext hD4
   have bR4 := bRD.ext hD4
   have hu4 : ByT w4 0 (.slice A3 16 c4) l := (ByT.of_own own1).kept (T := []) (.ext he4)
   refine mixS 7 (by kernel_rfl) (by kernel_rfl) (by rfl) (by rfl) (fun K hK => ?_)
   refine wpo_wr (.tmp 28) (.tmp 33) rfl rfl hol4 rfl hs4 (y := (k, l)) ⟨_, rfl, hu4⟩ (by rw [lim_def, ← HE.out]; omega) (by omega) (by omega) ?_
   intro v7 w7 own7 hg7 hb7
   obtain ⟨A7, n7, c7, rfl, _, _, _⟩ := own7.form
   have hne := own_ne hol4.choose_spec.2 b84.kd (by decide)
   have hneR := own_ne hol4.choose_spec.2 bR4.kd (by decide)
   have hneB := hob4.kept (T := [22]) (by decide) (Nat.le_refl _) (Kept.app hol4.choose_spec.2 hg7 (by decide) (by omega))
   refine hK.out _ _ (XK.grown hg7 hb7 (by simp; exact ⟨by omega, hne⟩)) ?_
   clear hK K
   try simp only [pA, pB, pC, pD]
   have b87 : Box w7 w1.heap.size 27 _ := (hg7.block _ b84.lt hne).trans b84
   have bR7 : Box w7 (w.heap.size + 1) 27 _ := (hg7.block _ bR4.lt hneR).trans bR4
   have n0 := b87.cell 0 rfl
   have n1 := b87.cell 1 rfl
   have zn := b87.free
   have p0 := bR7.cell 0 rfl
   have p1 := bR7.cell 1 rfl
   have zp := bR7.free
   have k8 := b87.kd
   have kR7 := bR7.kd
   have hx7 : Ext w w7 := (ext_trans hww (ext_trans hwD hD4)).trans (hb7.mono (by omega))
   apply mixF 8 (by kernel_rfl) (by rfl) (by rfl)
   ·(intro w' hx; go_simp <;> with_reducible rfl)
   simp only [pA, pB, pC, pD]
   refine mixLast 9 (by kernel_rfl) (by kernel_rfl) (by kernel_rfl) (by rfl) (by rfl) (fun K hK => ?_)
   have hK' := Lib.hid hK
   clear hK
   go_wp2
   refine hK'.out _ _ ?_
   clear hK' K
   refine NoPanic.normal ?_
   go_wp2
   ((try simp only [Exit.inBlock, Exit.then]); refine bodyPost_ret (v := ?_) ?resultOf rfl ?_; case resultOf => (rw [results_cell_tmp rfl]; go_simp; rfl))
   rw [HP.out]
   refine ⟨_, _, rfl, rfl, ⟨_, _, rfl, (hneB.kB (by (repeat (with_reducible (first | assumption | exact Kept.refl _ _ _ | (apply Kept.setK; rotate_left; (repeat (first | assumption | apply Kd.set | apply Kd.alloc | apply Kd.drew)); decide; omega) | refine Kept.allocK ?_ _ | refine Kept.drewK ?_))))).more (rb' := w.heap.size) (by omega) (Nat.le_refl _), (own7.kW (by (repeat (with_reducible (first | assumption | exact Kept.refl _ _ _ | (apply Kept.setK; rotate_left; (repeat (first | assumption | apply Kd.set | apply Kd.alloc | apply Kd.drew)); decide; omega) | refine Kept.allocK ?_ _ | refine Kept.drewK ?_))))).more (rb' := w.heap.size) (by omega) (Nat.le_refl _)⟩, ?_⟩
   (repeat (with_reducible (first | assumption | exact Below.refl _ _ | refine Below.setCell ?_ (by simp <;> omega) _ | refine Below.alloc ?_ (by simp <;> omega) _ | refine Below.drew ?_ | refine below_drewN ?_ _)))
  ·have q3 : ((n2 : Int) != 16) = true := by rw [bne_iff_ne]; omega
   have HP := hp (d, 2) (by unfold dPut; rw [if_neg (by rw [← HN.out]; exact hlo), if_pos (by rw [← HN2.out]; exact h16)])
   clear hlo h16
   go_wp2
   ((try simp only [Exit.inBlock, Exit.then]); refine bodyPost_ret (v := ?_) ?resultOf rfl ?_; case resultOf => (rw [results_cell_tmp rfl]; go_simp; rfl))
   rw [HP.out]
   refine ⟨_, _, rfl, rfl, ⟨_, _, rfl, (hob.kB (by (repeat (with_reducible (first | assumption | exact Kept.refl _ _ _ | (apply Kept.setK; rotate_left; (repeat (first | assumption | apply Kd.set | apply Kd.alloc | apply Kd.drew)); decide; omega) | refine Kept.allocK ?_ _ | refine Kept.drewK ?_))))).more (by omega) (Nat.le_refl _), (hol.kW (by (repeat (with_reducible (first | assumption | exact Kept.refl _ _ _ | (apply Kept.setK; rotate_left; (repeat (first | assumption | apply Kd.set | apply Kd.alloc | apply Kd.drew)); decide; omega) | refine Kept.allocK ?_ _ | refine Kept.drewK ?_))))).more (by omega) (Nat.le_refl _)⟩, ?_⟩
   (repeat (with_reducible (first | assumption | exact Below.refl _ _ | refine Below.setCell ?_ (by simp <;> omega) _ | refine Below.alloc ?_ (by simp <;> omega) _ | refine Below.drew ?_ | refine below_drewN ?_ _)))
end Go.Proofs.YtdmnmfnmaccmoaaGreatDoor
/- Walks: disk.Get, the document's GetBlock. -/
namespace Go.Proofs.YtdmnmfnmaccmoaaGreatDoor
open Go Go.RowKit
theorem dLast_or (l : List (Int × List UInt8)) (k : Int) (b : List UInt8) : dLast l k b = b ∨ ∃ i, i < l.length ∧ dLast l k b = (l.getD i (0, [])).2 := by
 have : ∀ j, j ≤ l.length → dLast (l.take j) k b = b ∨ ∃ i, i < l.length ∧ dLast (l.take j) k b = (l.getD i (0, [])).2 := by
  intro j
  induction j with
  | zero => intro _; exact .inl rfl
  | succ j ih =>
   intro hj
   rw [dLast_take l j (by omega)]
   split
   ·exact .inr ⟨j, by omega, rfl⟩
   ·exact ih (by omega)
 have h := this l.length (Nat.le_refl _)
 rwa [List.take_length] at h
set_option maxRecDepth 100000 in
set_option maxHeartbeats 4000000 in
theorem dskGet_v {T : List TypeId} {base : Nat} {v : Value} {d : Dsk} {k : Int} {w : World} (h : DskV T w base v d) (hk : DskOk d) :
  Calls Tryz.prog 103 #[v, .int .i64 k] w fun e w' => ∃ v' q, e = .returned (.tuple #[v', .int .i64 q]) ∧ q = (dGet d k).2 ∧ ByT w' 0 v' (dGet d k).1 ∧ Ext w w' := by
 obtain ⟨A, c, E, m, rfl, h0⟩ := h.at_
 clear h
 obtain ⟨n, hN⟩ : ∃ n, n = d.blocks.length := ⟨_, rfl⟩
 obtain ⟨e, hE⟩ : ∃ n, n = d.late.length := ⟨_, rfl⟩
 rw [← hN, ← hE] at h0 ⊢
 have hn : n ≤ 4096 := by have := hk.blocks; omega
 have he4 : e ≤ 4096 := by have := hk.late; omega
 have HN := Lib.hid hN
 have HE := Lib.hid hE
 have Hk := Lib.hid hk
 have hp : ∀ v, dGet d k = v → Hid (dGet d k = v) := fun _ h => h
 clear hN hE hk
 go_enter Tryz.func103, Tryz.ntmps103
 by_cases hlo : k < 0 ∨ (n : Int) ≤ k
 ·have HP := hp ([], 3) (by unfold dGet; rw [if_pos (by rw [← HN.out]; exact hlo)])
  have hk1 : k < 0 ∨ (¬ k < 0 ∧ (n : Int) ≤ k) := by omega
  rcases hk1 with hk1 | ⟨hk1, hk2⟩
  ·have q1 : decide (k < 0) = true := by simpa using hk1
   clear hlo hk1
   go_wp2
   go_ret2
   rw [HP.out]
   exact ⟨_, _, rfl, rfl, ByT.nil _ _, ext_alloc _ _⟩
  ·have q1 : decide (k < 0) = false := by simpa using hk1
   have q2 : decide ((n : Int) ≤ k) = true := by simpa using hk2
   clear hlo hk1
   go_wp2
   go_ret2
   rw [HP.out]
   exact ⟨_, _, rfl, rfl, ByT.nil _ _, ext_alloc _ _⟩
 ·have q1 : decide (k < 0) = false := by simp; omega
  have q2 : decide ((n : Int) ≤ k) = false := by simp; omega
  obtain ⟨j, rfl⟩ : ∃ j : Nat, k = (j : Int) := ⟨k.toNat, by omega⟩
  have hjn : j < n := by omega
  have HP := hp (dLast d.late j (d.blocks.getD j []), 0) (by unfold dGet; rw [if_neg (by rw [← HN.out]; exact hlo)]; rfl)
  have i0 : (0 : Int) ≤ (j : Int) := by omega
  have i1 : (j : Int) < (n : Int) := by omega
  clear hlo hp
  obtain ⟨W, hW⟩ : ∃ W, W = w.alloc (.cells #[.slice A n c, .slice E e m] 27) := ⟨_, rfl⟩
  have bp : Box W w.heap.size 27 #[.slice A n c, .slice E e m] := by rw [hW]; exact Box.new w _ _ rfl
  have hwW : Ext w W := by rw [hW]; exact ext_alloc _ _
  have hW1 := h0.below hwW
  obtain ⟨b, o, A1, n1, c1, rfl, hb, hc1, hy1⟩ := hW1.blocks.at_ hjn
  have hy1 : ByV W w.heap.size (.slice A1 n1 c1) (d.blocks.getD j []) := ⟨_, _, _, rfl, hy1⟩
  have hcc : (w.alloc (.cells #[.slice (some ⟨b, o, none⟩) n c, .slice E e m] 27)).cell? ⟨b, o + j, none⟩ = some (.slice A1 n1 c1) := by rw [← hW]; exact hc1
  go_wp2_with fail
  rw [← hW]
  clear hcc hW
  go_loopw [6, 26] (fun u i wr => ∃ (a : Nat), a ≤ e ∧ i = .int .i64 a ∧ ByV W w.heap.size u (dLast (d.late.take a) j (d.blocks.getD j [])) ∧ Ext W wr) (fun _ i _ => e - (intOf i).toNat)
  case atStart => exact ⟨0, by omega, rfl, by simpa [dLast_nil] using hy1, Below.refl _ _⟩
  case round =>
   obtain ⟨a, ha, rfl, hu, hd⟩ := hrel
   obtain ⟨Au, nu, cu, rfl, hyu⟩ := hu
   by_cases hlt : a < e
   ·obtain ⟨b', o', x, A2, n2, c2, rfl, hb', ck, cd, Hx, hy2⟩ := hW1.late.at_ hlt
    rw [← Nat.add_assoc] at cd
    have ckr := (hd.cell (p := ⟨b', o' + a * 2, none⟩) (show b' < W.heap.size by have := hwW.size; omega)).trans ck
    have cdr := (hd.cell (p := ⟨b', o' + a * 2 + 1, none⟩) (show b' < W.heap.size by have := hwW.size; omega)).trans cd
    have e0 : (0 : Int) ≤ (a : Int) := by omega
    have e1 : (a : Int) < (e : Int) := by omega
    have hst := dLast_take d.late a (by have := HE.out; omega) j (d.blocks.getD j [])
    by_cases hx : x = (j : Int)
    ·have HS := Lib.hid (show dLast (d.late.take (a + 1)) j (d.blocks.getD j []) = (d.late.getD a (0, [])).2 by rw [hst, if_pos (by rw [← Hx.out]; exact hx)])
     have q3 : (x == (j : Int)) = true := by simpa using hx
     clear hst hx
     go_wp2_with fail
     go_roundw
     case rel => exact ⟨a + 1, by omega, by go_num, by rw [HS.out]; exact ⟨_, _, _, rfl, hy2⟩, ext_trans hd (ext_alloc _ _)⟩
     case measure => simp [intOf]; omega
    ·have HS := Lib.hid (show dLast (d.late.take (a + 1)) j (d.blocks.getD j []) = dLast (d.late.take a) j (d.blocks.getD j []) by rw [hst, if_neg (by rw [← Hx.out]; exact hx)])
     have q3 : (x == (j : Int)) = false := by simpa using hx
     clear hst hx
     go_wp2_with fail
     go_roundw
     case rel => exact ⟨a + 1, by omega, by go_num, by rw [HS.out]; exact ⟨_, _, _, rfl, hyu⟩, ext_trans hd (ext_alloc _ _)⟩
     case measure => simp [intOf]; omega
   ·have hae : a = e := by omega
    subst hae
    rw [List.take_of_length_le (by have := HE.out; omega)] at hyu
    have hl4 : (dLast d.late j (d.blocks.getD j [])).length ≤ 4096 := by
     rcases dLast_or d.late j (d.blocks.getD j []) with e0 | ⟨i, _, e0⟩
     ·rw [e0]; exact Hk.out.block j
     ·rw [e0]; exact Hk.out.write i
    have hzW := hwW.size
    have hzr := hd.size
    have hnu : nu ≤ 4096 := by have := By.len hyu; omega
    have hyr := Sl.below hyu (hd.mono (show w.heap.size ≤ W.heap.size by omega))
    go_wp2_with fail
    refine (clone_w _ hyr (by omega) (by rw [blim_def]; omega)).mono ?_
    rintro e9 w9 ⟨v9, rfl, own9, he9⟩
    obtain ⟨A9, c9, rfl, _⟩ := own_shape own9
    go_wp2
    go_ret2
    rw [HP.out]
    exact ⟨_, _, rfl, rfl, ByT.of_own own9, ext_trans hwW (ext_trans hd he9)⟩
end Go.Proofs.YtdmnmfnmaccmoaaGreatDoor
/- Walks: the document's GetBlock. -/
namespace Go.Proofs.YtdmnmfnmaccmoaaGreatDoor
open Go Go.RowKit
end Go.Proofs.YtdmnmfnmaccmoaaGreatDoor
/- A row of the call's own: one element stored anew. No walk here. -/
namespace Go.Proofs.YtdmnmfnmaccmoaaGreatDoor
open Go Go.RowKit
theorem take_set_list {α : Type} (l : List α) (n i : Nat) (x : α) : (l.set i x).take n = (l.take n).set i x := by
 apply List.ext_getElem?
 intro j
 rw [List.getElem?_take, List.getElem?_set, List.getElem?_set, List.getElem?_take, List.length_take]
 by_cases h1 : j < n
 ·by_cases h2 : i = j
  ·subst h2
   simp only [h1, if_true]
   by_cases h3 : i < l.length
   ·rw [if_pos h3, if_pos (by omega)]
   ·rw [if_neg h3, if_neg (by omega)]
  ·simp [h1, h2]
 ·by_cases h2 : i = j
  ·subst h2
   simp only [h1, if_false, if_true]
   rw [if_neg (by omega)]
  ·simp [h1, h2]
theorem own_setAt {w : World} {rb e n c i : Nat} {A : Option Addr} {vs : List Value} (h : w.ownsRow rb e 1 (.slice A n c) n vs) (hi : i < n) :
  ∃ g, A = some ⟨g, 0, none⟩ ∧ rb ≤ g ∧ Kd w g e ∧ w.frozen? ⟨g, i, none⟩ = false ∧ w.cell? ⟨g, i, none⟩ = vs[i]? ∧ ∀ u, (w.setCell ⟨g, i, none⟩ u).ownsRow rb e 1 (.slice A n c) n (vs.set i u) := by
 obtain ⟨hl, h⟩ := h
 rcases h with ⟨_, h⟩ | ⟨g, cap, cur, hv, hg, hh, hc, hm, hs, ht⟩
 ·omega
 ·injection hv with h1 h2 h3
  subst h1 h3
  refine ⟨g, rfl, hg, ⟨cur, hh⟩, by simp [World.frozen?, hh], ?_, fun u => ⟨by rw [List.length_set, hl], .inr ⟨g, c, cur.setIfInBounds i u, rfl, hg, ?_, hc, hm, by simpa using hs, ?_⟩⟩⟩
  ·rw [← ht, List.getElem?_take, if_pos (by omega)]
   simp [World.cell?, hh]
  ·simp [World.setCell, Array.getElem?_modify, hh]
  ·rw [Array.toList_setIfInBounds, take_set_list, ht]
theorem OwnRow.setAt {w : World} {rb base n c i : Nat} {A : Option Addr} {bs : List (List UInt8)} (h : OwnRow eBlk w rb base (.slice A n c) bs) (hi : i < n) (hb : base ≤ rb) :
  ∃ g old, A = some ⟨g, 0, none⟩ ∧ rb ≤ g ∧ Kd w g 22 ∧ w.frozen? ⟨g, i, none⟩ = false ∧ w.cell? ⟨g, i, none⟩ = some old ∧ ByT w base old (bs.getD i []) ∧
   ∀ u b, ByT w base u b → OwnRow eBlk (w.setCell ⟨g, i, none⟩ u) rb base (.slice A n c) (bs.set i b) := by
 obtain ⟨css, hc, ho⟩ := h
 obtain ⟨vs, rfl, hvl, hv⟩ := css_single _ _ _ hc
 rw [map_single_flat] at ho
 have hn : n = bs.length := by
  rcases ho.2 with ⟨h1, h2⟩ | ⟨g, cap, cur, h1, _⟩
  ·injection h1 with _ h1 _; omega
  ·injection h1
 subst hn
 obtain ⟨g, hA, hg, hk, hf, hcell, hset⟩ := own_setAt ho hi
 refine ⟨g, vs.getD i (.bool false), hA, hg, hk, hf, ?_, hv i hi, fun u b hu => ?_⟩
 ·rw [hcell, List.getD_eq_getElem?_getD, List.getElem?_eq_getElem (by omega)]
  rfl
 ·have kk : Kept [] base w (w.setCell ⟨g, i, none⟩ u) := (Kept.refl _ _ _).setK hk (by decide) (by omega) _ _
  refine ⟨(vs.set i u).map fun v => [v], ⟨by simp [hvl], fun j hj => ?_⟩, by rw [map_single_flat, List.length_set]; exact hset u⟩
  rw [List.length_set] at hj
  rw [getD_map _ (.bool false) _ _ _ (by rw [List.length_set]; omega), getD_set, getD_set]
  refine ⟨_, rfl, ?_⟩
  by_cases e : i = j
  ·rw [if_pos ⟨e, by omega⟩, if_pos ⟨e, hi⟩]
   exact hu.kept kk
  ·rw [if_neg (fun h => e h.1), if_neg (fun h => e h.1)]
   exact (hv j hj).kept kk
end Go.Proofs.YtdmnmfnmaccmoaaGreatDoor
/- Walks: disk.Flush. -/
namespace Go.Proofs.YtdmnmfnmaccmoaaGreatDoor
open Go Go.RowKit
set_option maxRecDepth 100000 in
set_option maxHeartbeats 4000000 in
theorem dskFlush_v {T : List TypeId} {base : Nat} {v : Value} {d : Dsk} {w : World} (h : DskV T w base v d) (hk : DskOk d) (hli : LateIn d) :
  Calls Tryz.prog 37 #[v] w fun e w' => ∃ v', e = .returned v' ∧ OwnD w w' v' (dFlush d) ∧ Ext w w' := by
 obtain ⟨A, c, E, m, rfl, h0⟩ := h.at_
 obtain ⟨n, hN⟩ : ∃ n, n = d.blocks.length := ⟨_, rfl⟩
 obtain ⟨e, hE⟩ : ∃ n, n = d.late.length := ⟨_, rfl⟩
 rw [← hN, ← hE] at h h0 ⊢
 have he4 : e ≤ 4096 := by have := hk.late; omega
 have hn4 : n ≤ 4096 := by have := hk.blocks; omega
 have HN := Lib.hid hN
 have HE := Lib.hid hE
 have Hk := Lib.hid hk
 have Hli := Lib.hid hli
 clear hN hE hk hli
 go_enter Tryz.func37, Tryz.ntmps37
 go_wp2_with fail
 obtain ⟨W, hW⟩ : ∃ W, W = (w.alloc (.cells #[.slice A n c, .slice E e m] 27)).alloc (.cells #[.slice none 0 0, .slice none 0 0] 27) := ⟨_, rfl⟩
 rw [← hW]
 have bR : Box W (w.heap.size + 1) 27 #[.slice none 0 0, .slice none 0 0] := by rw [hW]; exact Box.new _ _ _ (size_alloc _ _).symm
 have hwW : Ext w W := by rw [hW]; exact ext_trans (ext_alloc _ _) (ext_alloc _ _)
 have hzW : W.heap.size = w.heap.size + 2 := by rw [hW]; simp
 clear hW h0
 refine (dskOwn_v (h.ext hwW) Hk.out).mono ?_
 rintro e0 w1 ⟨_, rfl, ⟨vb, vl, rfl, hob, hol⟩, he1⟩
 obtain ⟨A1, n1, c1, rfl, hc1, _, HN1⟩ := hob.form
 obtain ⟨A2, e1, c3, rfl, hc3, _, HE1⟩ := hol.form
 have hnn : n1 = n := HN1.out.trans HN.out.symm
 have hee : e1 = e := HE1.out.trans HE.out.symm
 subst hnn hee
 have hz1 := he1.size
 have hlt1 : w.heap.size + 1 < w1.heap.size := by omega
 have bR1 := bR.ext he1
 have hww : Ext w w1 := ext_trans hwW he1
 clear bR
 go_wp2_with fail
 obtain ⟨w2, hw2⟩ : ∃ w2, w2 = w1.alloc (.cells #[.slice A1 n1 c1, .slice A2 e1 c3] 27) := ⟨_, rfl⟩
 rw [← hw2]
 have b3 : Box w2 w1.heap.size 27 #[.slice A1 n1 c1, .slice A2 e1 c3] := by rw [hw2]; exact Box.new _ _ _ rfl
 have he2 : Ext w1 w2 := by rw [hw2]; exact ext_alloc _ _
 have hz2 : w2.heap.size = w1.heap.size + 1 := by rw [hw2]; simp
 clear hw2
 have hob2 := hob.ext he2
 have hol2 := hol.ext he2
 have bR2 := bR1.ext he2
 go_loopw [11] (fun i wr => ∃ (a : Nat), a ≤ e1 ∧ i = .int .i64 a ∧ Box wr w1.heap.size 27 #[.slice A1 n1 c1, .slice A2 e1 c3] ∧ OwnRow eBlk wr W.heap.size 0 (.slice A1 n1 c1) (fTo d.late d.blocks a) ∧ OwnRow eWr wr W.heap.size 0 (.slice A2 e1 c3) d.late ∧ Below W.heap.size w2 wr) (fun i _ => e1 - (intOf i).toNat)
 case atStart => exact ⟨0, by omega, rfl, b3, hob2, hol2, Below.refl _ _⟩
 case round =>
  obtain ⟨a, ha, rfl, b3r, hobr, holr, hd⟩ := hrel
  have hzr := hd.size
  have bRr := bR2.below hd (by omega)
  obtain ⟨m0, m1⟩ := b3r.cells2
  have hltr := b3r.lt
  by_cases hlt : a < e1
  ·obtain ⟨b', o', x, u2, rfl, hb', ck, cd, Hx, hy2⟩ := (holr.row (T := tD) (by decide) (Nat.le_refl _)).wr_at hlt
   have hin := Hli.out a (by have := HE.out; omega)
   rw [← Hx.out, ← HN.out] at hin
   obtain ⟨j, rfl⟩ : ∃ j : Nat, x = (j : Int) := ⟨x.toNat, by omega⟩
   have hj : j < n1 := by omega
   have i0 : (0 : Int) ≤ (j : Int) := by omega
   have i1 : (j : Int) < (n1 : Int) := by omega
   have e0 : (0 : Int) ≤ (a : Int) := by omega
   have e2 : (a : Int) < (e1 : Int) := by omega
   obtain ⟨g, old, hA1, hg, kg, fg, cg, hold, hset⟩ := hobr.setAt hj (Nat.zero_le _)
   subst hA1
   have hu2 := hset _ _ hy2
   obtain ⟨Au, nu, cu, rfl, _⟩ := hy2
   obtain ⟨Ao, no_, co, rfl, _⟩ := hold
   have hgr := kg.lt
   have hS : Hid ((fTo d.late d.blocks a).set j (d.late.getD a (0, [])).2 = fTo d.late d.blocks (a + 1)) := by
    show _ = ((fTo d.late d.blocks a).set (d.late.getD a (0, [])).1.toNat (d.late.getD a (0, [])).2)
    rw [← Hx.out]
    rfl
   rw [hS.out] at hu2
   have hne := Kd.ne kg b3r.kd (by decide)
   have hk5 := (Kept.refl [104] 0 wr).setK kg (by decide) (by omega) j (.slice Au nu cu)
   go_wp2_with fail
   go_roundw
   case rel => exact ⟨a + 1, by omega, by go_num, (b3r.setOther (fun e => hne e.symm) _).alloc _, hu2.ext (ext_alloc _ _), (holr.kept (by decide) (Nat.le_refl _) hk5).ext (ext_alloc _ _), (hd.setCell (by simp; omega) _).alloc (by rw [size_set]; omega) _⟩
   case measure => simp [intOf]; omega
  ·have hae : a = e1 := by omega
   subst hae
   have HF : Hid (dFlush d = ⟨fTo d.late d.blocks a, []⟩) := by show _ = _; unfold dFlush; rw [HE.out]
   have z3 := b3r.free
   obtain ⟨r0, r1⟩ := bRr.cells2
   have zR := bRr.free
   have k3 := b3r.kd
   have kR := bRr.kd
   go_wp2
   ((try simp only [Exit.inBlock, Exit.then]); refine bodyPost_ret (v := ?_) ?resultOf rfl ?_; case resultOf => (rw [results_cell1 rfl]; go_simp; rfl))
   rw [HF.out]
   refine ⟨_, rfl, ⟨_, _, rfl, (hobr.kB (by (repeat (with_reducible (first | assumption | exact Kept.refl _ _ _ | (apply Kept.setK; rotate_left; (repeat (first | assumption | apply Kd.set | apply Kd.alloc | apply Kd.drew)); decide; omega) | refine Kept.allocK ?_ _ | refine Kept.drewK ?_))))).more (rb' := w.heap.size) (by omega) (Nat.le_refl _), OwnRow.nil _ _ _ _⟩, ?_⟩
   have hx : Ext w wr := (ext_trans hww he2).trans (hd.mono (by omega))
   (repeat (with_reducible (first | assumption | exact Below.refl _ _ | refine Below.setCell ?_ (by simp <;> omega) _ | refine Below.alloc ?_ (by simp <;> omega) _ | refine Below.drew ?_ | refine below_drewN ?_ _)))
end Go.Proofs.YtdmnmfnmaccmoaaGreatDoor
/- Walks: disk.Keep. -/
namespace Go.Proofs.YtdmnmfnmaccmoaaGreatDoor
open Go Go.RowKit
theorem and_one (x : Int) : bits .and .i64 x 1 = x % 2 := by
 show IntKind.i64.wrap ((BitVec.ofInt 64 x &&& BitVec.ofInt 64 1).toNat : Int) = _
 have h : (BitVec.ofInt 64 x &&& BitVec.ofInt 64 1).toNat = (x % 2).toNat := by
  rw [BitVec.toNat_and, show (BitVec.ofInt 64 1).toNat = 1 from rfl, Nat.and_one_is_mod, BitVec.toNat_ofInt]
  omega
 rw [h, IntKind.wrap_i64]
 omega
set_option maxRecDepth 100000 in
set_option maxHeartbeats 4000000 in
theorem dskKeep_v {T : List TypeId} {base : Nat} {v : Value} {d : Dsk} {k : Int} {w : World} (h : DskV T w base v d) (hk : DskOk d) (hli : LateIn d) :
  Calls Tryz.prog 20 #[v, .int .i64 k] w fun e w' => ∃ v', e = .returned v' ∧ OwnD w w' v' (dKeep d k) ∧ Ext w w' := by
 obtain ⟨A, c, E, m, rfl, h0⟩ := h.at_
 obtain ⟨n, hN⟩ : ∃ n, n = d.blocks.length := ⟨_, rfl⟩
 obtain ⟨e, hE⟩ : ∃ n, n = d.late.length := ⟨_, rfl⟩
 rw [← hN, ← hE] at h h0 ⊢
 have he4 : e ≤ 4096 := by have := hk.late; omega
 have hn4 : n ≤ 4096 := by have := hk.blocks; omega
 have HN := Lib.hid hN
 have HE := Lib.hid hE
 have Hk := Lib.hid hk
 have Hli := Lib.hid hli
 clear hN hE hk hli
 go_enter Tryz.func20, Tryz.ntmps20
 go_wp2_with fail
 obtain ⟨W, hW⟩ : ∃ W, W = (w.alloc (.cells #[.slice A n c, .slice E e m] 27)).alloc (.cells #[.slice none 0 0, .slice none 0 0] 27) := ⟨_, rfl⟩
 rw [← hW]
 have bR : Box W (w.heap.size + 1) 27 #[.slice none 0 0, .slice none 0 0] := by rw [hW]; exact Box.new _ _ _ (size_alloc _ _).symm
 have hwW : Ext w W := by rw [hW]; exact ext_trans (ext_alloc _ _) (ext_alloc _ _)
 have hzW : W.heap.size = w.heap.size + 2 := by rw [hW]; simp
 clear hW h0
 refine (dskOwn_v (h.ext hwW) Hk.out).mono ?_
 rintro e0 w1 ⟨_, rfl, ⟨vb, vl, rfl, hob, hol⟩, he1⟩
 obtain ⟨A1, n1, c1, rfl, hc1, _, HN1⟩ := hob.form
 obtain ⟨A2, e1, c3, rfl, hc3, _, HE1⟩ := hol.form
 have hnn : n1 = n := HN1.out.trans HN.out.symm
 have hee : e1 = e := HE1.out.trans HE.out.symm
 subst hnn hee
 have hz1 := he1.size
 have hlt1 : w.heap.size + 1 < w1.heap.size := by omega
 have bR1 := bR.ext he1
 have hww : Ext w w1 := ext_trans hwW he1
 clear bR
 go_wp2_with fail
 obtain ⟨w2, hw2⟩ : ∃ w2, w2 = w1.alloc (.cells #[.slice A1 n1 c1, .slice A2 e1 c3] 27) := ⟨_, rfl⟩
 rw [← hw2]
 have b3 : Box w2 w1.heap.size 27 #[.slice A1 n1 c1, .slice A2 e1 c3] := by rw [hw2]; exact Box.new _ _ _ rfl
 have he2 : Ext w1 w2 := by rw [hw2]; exact ext_alloc _ _
 have hz2 : w2.heap.size = w1.heap.size + 1 := by rw [hw2]; simp
 clear hw2
 have hob2 := hob.ext he2
 have hol2 := hol.ext he2
 have bR2 := bR1.ext he2
 go_loopw [13] (fun i wr => ∃ (a : Nat), a ≤ e1 ∧ i = .int .i64 a ∧ Box wr w1.heap.size 27 #[.slice A1 n1 c1, .slice A2 e1 c3] ∧ OwnRow eBlk wr W.heap.size 0 (.slice A1 n1 c1) (kTo d.late k d.blocks a) ∧ OwnRow eWr wr W.heap.size 0 (.slice A2 e1 c3) d.late ∧ Below W.heap.size w2 wr) (fun i _ => e1 - (intOf i).toNat)
 case atStart => exact ⟨0, by omega, rfl, b3, hob2, hol2, Below.refl _ _⟩
 case round =>
  obtain ⟨a, ha, rfl, b3r, hobr, holr, hd⟩ := hrel
  have hzr := hd.size
  have bRr := bR2.below hd (by omega)
  obtain ⟨m0, m1⟩ := b3r.cells2
  have hltr := b3r.lt
  by_cases hlt : a < e1
  ·obtain ⟨b', o', x, u2, rfl, hb', ck, cd, Hx, hy2⟩ := (holr.row (T := tD) (by decide) (Nat.le_refl _)).wr_at hlt
   have hin := Hli.out a (by have := HE.out; omega)
   rw [← Hx.out, ← HN.out] at hin
   obtain ⟨j, rfl⟩ : ∃ j : Nat, x = (j : Int) := ⟨x.toNat, by omega⟩
   have hj : j < n1 := by omega
   have i0 : (0 : Int) ≤ (j : Int) := by omega
   have i1 : (j : Int) < (n1 : Int) := by omega
   have e0 : (0 : Int) ≤ (a : Int) := by omega
   have e2 : (a : Int) < (e1 : Int) := by omega
   have hbit : (bits .and .i64 (k / 2 ^ a) 1 == 1) = dBit k a := by rw [and_one]; rfl
   have hst : kTo d.late k d.blocks (a + 1) = if a < 60 ∧ dBit k a = true then (kTo d.late k d.blocks a).set (d.late.getD a (0, [])).1.toNat (d.late.getD a (0, [])).2 else kTo d.late k d.blocks a := rfl
   by_cases hset0 : a < 60 ∧ dBit k a = true
   ·obtain ⟨h60, hb1⟩ := hset0
    obtain ⟨g, old, hA1, hg, kg, fg, cg, hold, hset⟩ := hobr.setAt hj (Nat.zero_le _)
    subst hA1
    have hu2 := hset _ _ hy2
    obtain ⟨Au, nu, cu, rfl, _⟩ := hy2
    obtain ⟨Ao, no_, co, rfl, _⟩ := hold
    have hgr := kg.lt
    have hS : Hid ((kTo d.late k d.blocks a).set j (d.late.getD a (0, [])).2 = kTo d.late k d.blocks (a + 1)) := by
     show _ = _
     rw [hst, if_pos ⟨h60, hb1⟩, ← Hx.out]
     rfl
    rw [hS.out] at hu2
    have hne := Kd.ne kg b3r.kd (by decide)
    have hk5 := (Kept.refl [104] 0 wr).setK kg (by decide) (by omega) j (.slice Au nu cu)
    have q6 : (a : Int) < 60 := by omega
    rw [hb1] at hbit
    clear hst hb1
    go_wp2_with fail
    go_roundw
    case rel => exact ⟨a + 1, by omega, by go_num, (b3r.setOther (fun e => hne e.symm) _).alloc _, hu2.ext (ext_alloc _ _), (holr.kept (by decide) (Nat.le_refl _) hk5).ext (ext_alloc _ _), (hd.setCell (by simp; omega) _).alloc (by rw [size_set]; omega) _⟩
    case measure => simp [intOf]; omega
   ·have hS : Hid (kTo d.late k d.blocks a = kTo d.late k d.blocks (a + 1)) := by
     show _ = _
     rw [hst, if_neg hset0]
    rw [hS.out] at hobr
    obtain ⟨Au, nu, cu, rfl, _⟩ := hy2
    by_cases h60 : a < 60
    ·have hb1 : dBit k a = false := by
      cases hh : dBit k a with
      | false => rfl
      | true => exact absurd ⟨h60, hh⟩ hset0
     rw [hb1] at hbit
     have q6 : (a : Int) < 60 := by omega
     clear hst hset0 hb1
     go_wp2_with fail
     go_roundw
     case rel => exact ⟨a + 1, by omega, by go_num, b3r.alloc _, hobr.ext (ext_alloc _ _), holr.ext (ext_alloc _ _), hd.alloc (by omega) _⟩
     case measure => simp [intOf]; omega
    ·have q6 : decide ((a : Int) < 60) = false := by simp; omega
     have q7 : (60 : Int) ≤ (a : Int) := by omega
     clear hst hset0 hbit
     go_wp2_with fail
     go_roundw
     case rel => exact ⟨a + 1, by omega, by go_num, b3r.alloc _, hobr.ext (ext_alloc _ _), holr.ext (ext_alloc _ _), hd.alloc (by omega) _⟩
     case measure => simp [intOf]; omega
  ·have hae : a = e1 := by omega
   subst hae
   have HF : Hid (dKeep d k = ⟨kTo d.late k d.blocks a, []⟩) := by show _ = _; unfold dKeep; rw [HE.out]
   have z3 := b3r.free
   obtain ⟨r0, r1⟩ := bRr.cells2
   have zR := bRr.free
   have k3 := b3r.kd
   have kR := bRr.kd
   go_wp2
   ((try simp only [Exit.inBlock, Exit.then]); refine bodyPost_ret (v := ?_) ?resultOf rfl ?_; case resultOf => (rw [results_cell1 rfl]; go_simp; rfl))
   rw [HF.out]
   refine ⟨_, rfl, ⟨_, _, rfl, (hobr.kB (by (repeat (with_reducible (first | assumption | exact Kept.refl _ _ _ | (apply Kept.setK; rotate_left; (repeat (first | assumption | apply Kd.set | apply Kd.alloc | apply Kd.drew)); decide; omega) | refine Kept.allocK ?_ _ | refine Kept.drewK ?_))))).more (rb' := w.heap.size) (by omega) (Nat.le_refl _), OwnRow.nil _ _ _ _⟩, ?_⟩
   have hx : Ext w wr := (ext_trans hww he2).trans (hd.mono (by omega))
   (repeat (with_reducible (first | assumption | exact Below.refl _ _ | refine Below.setCell ?_ (by simp <;> omega) _ | refine Below.alloc ?_ (by simp <;> omega) _ | refine Below.drew ?_ | refine below_drewN ?_ _)))
end Go.Proofs.YtdmnmfnmaccmoaaGreatDoor
/- One byte of a disk of the call's own stored anew. No walk here. -/
namespace Go.Proofs.YtdmnmfnmaccmoaaGreatDoor
open Go Go.RowKit
theorem ByT.other {w : World} {v : Value} {l : List UInt8} {b : Nat} {p : Addr} (h : ByT w 0 v l) (hp : p.block = b) (hne : v.ownBlock ≠ some b) (u : Value) : ByT (w.setCell p u) 0 v l := by
 obtain ⟨A, n, c, rfl, hs, hf⟩ := h
 have hne' : ∀ ad, A = some ad → ad.block ≠ b := by
  rintro ad rfl e
  exact hne (by simp [Value.ownBlock, e])
 have hbl : ∀ ad, A = some ad → (w.setCell p u).heap[ad.block]? = w.heap[ad.block]? := fun ad e => Below.heap_setCell _ _ _ _ (by rw [hp]; exact hne' ad e)
 refine ⟨A, n, c, rfl, ⟨hs.len, hs.cap, hs.max, fun hn => ?_⟩, fun hn ad e => ?_⟩
 ·obtain ⟨ad, e, hb, hc⟩ := hs.at_ hn
  exact ⟨ad, e, by rw [size_set]; exact hb, fun i x hx => (World.cell?_of_block (w := w) (a := ad.add i) (by rw [block_of_add]; exact hbl ad e)).trans (hc i x hx)⟩
 ·rcases hf hn ad e with h | ⟨cur, t, ht, h⟩
  ·exact .inl h
  ·exact .inr ⟨cur, t, ht, (hbl ad e).trans h⟩
theorem ByT.byte {w : World} {base n c k : Nat} {A : Option Addr} {l : List UInt8} (h : ByT w base (.slice A n c) l) (hb0 : base = 0) (hk : k < n) :
  ∃ b o, A = some ⟨b, o, none⟩ ∧ Kd w b 5 ∧ w.frozen? ⟨b, o + k, none⟩ = false ∧ w.cell? ⟨b, o + k, none⟩ = some (.int .u8 ((l.getD k 0).toNat : Int)) ∧ ∀ z : UInt8, ByT (w.setCell ⟨b, o + k, none⟩ (.int .u8 (z.toNat : Int))) 0 (.slice A n c) (l.set k z) := by
 subst hb0
 obtain ⟨A', n', c', e, hs, hf⟩ := h
 injection e with e1 e2 e3
 subst e1 e2 e3
 have hl : l.length = n := By.len hs
 obtain ⟨b, o, rfl, hb, hc⟩ := By.at_ hs hk
 have hkd : ∃ cur, w.heap[b]? = some (.cells cur 5 (0, 0)) := by
  rcases hf (by omega) _ rfl with h | ⟨cur, t, ht, h⟩
  ·exact absurd h (Nat.not_lt_zero _)
  ·simp only [List.mem_cons, List.not_mem_nil, or_false] at ht
   subst ht
   exact ⟨cur, h⟩
 obtain ⟨cur, hcur⟩ := hkd
 refine ⟨b, o, rfl, ⟨cur, hcur⟩, by simp [World.frozen?, hcur], hc k hk, fun z => ⟨_, _, _, rfl, ⟨by rw [u8s_length, List.length_set, hl, Nat.mul_one], hs.cap, hs.max, fun hn => ⟨_, rfl, by rw [size_set]; exact hb, fun i u hu => ?_⟩⟩, fun hn ad e => ?_⟩⟩
 ·have hi : i < n := by
   rcases Nat.lt_or_ge i (u8s (l.set k z)).length with h | h
   ·rw [u8s_length, List.length_set] at h; omega
   ·rw [List.getElem?_eq_none h] at hu; cases hu
  have hci := hc i hi
  have e : (⟨b, o, none⟩ : Addr).add i = ⟨b, o + i, none⟩ := by
   unfold Addr.add
   split
   ·rename_i h0; subst h0; rfl
   ·rfl
  rw [e]
  have hcur' : (w.setCell ⟨b, o + k, none⟩ (.int .u8 (z.toNat : Int))).heap[b]? = some (.cells (cur.setIfInBounds (o + k) (.int .u8 (z.toNat : Int))) 5 (0, 0)) := by
   simp [World.setCell, Array.getElem?_modify, hcur]
  have hold : cur[o + i]? = some (.int .u8 ((l.getD i 0).toNat : Int)) := by simpa [World.cell?, hcur] using hci
  have hlt : o + i < cur.size := (Array.getElem?_eq_some_iff.1 hold).1
  rw [u8s_at, List.getElem?_set] at hu
  by_cases hik : k = i
  ·subst hik
   rw [if_pos rfl, if_pos (by omega)] at hu
   simp only [Option.map_some, Option.some.injEq] at hu
   subst hu
   simp [World.cell?, hcur', hlt, u8v]
  ·rw [if_neg hik, List.getElem?_eq_getElem (by omega)] at hu
   simp only [Option.map_some, Option.some.injEq] at hu
   subst hu
   have hold2 : cur[o + i]? = some (u8v l[i]) := by
    rw [hold, List.getD_eq_getElem?_getD, List.getElem?_eq_getElem (by omega)]
    rfl
   simp [World.cell?, hcur', hik, hold2]
 ·injection e with e
  subst e
  exact .inr ⟨_, 5, by simp, (show (w.setCell _ _).heap[b]? = some (.cells (cur.setIfInBounds (o + k) (.int .u8 (z.toNat : Int))) 5 (0, 0)) by simp [World.setCell, Array.getElem?_modify, hcur])⟩
theorem own_kd {w : World} {rb e size n : Nat} {v : Value} {xs : List Value} (h : w.ownsRow rb e size v n xs) {g : Nat} {t : TypeId} (hk : Kd w g t) (ht : t ≠ e) (p : Addr) (hp : p.block = g) (u : Value) : (w.setCell p u).ownsRow rb e size v n xs := by
 refine ⟨h.1, ?_⟩
 rcases h.2 with hn | ⟨g', cap, cur, rfl, h1, hgg, rest⟩
 ·exact .inl hn
 ·refine .inr ⟨g', cap, cur, rfl, h1, (Below.heap_setCell w p u g' ?_).trans hgg, rest⟩
  rw [hp]
  rintro rfl
  obtain ⟨cs, hk⟩ := hk
  rw [hk] at hgg
  injection hgg with hgg
  injection hgg with _ hgg
  exact ht hgg
theorem spoil_rows {w : World} {rb n c k i : Nat} {A : Option Addr} {lv : Value} {bs : List (List UInt8)} {ls : List (Int × List UInt8)}
  (hb : OwnRow eBlk w rb 0 (.slice A n c) bs) (hl : OwnRow eWr w rb 0 lv ls) {L : Nat} (ha : Apart L w (.agg #[.slice A n c, lv])) (hk : k < n) :
  ∃ g Au nu cu, A = some ⟨g, 0, none⟩ ∧ g < w.heap.size ∧ w.cell? ⟨g, k, none⟩ = some (.slice Au nu cu) ∧ Hid (nu = (bs.getD k []).length) ∧ nu ≤ cu ∧
   (i < nu → ∃ b o x, Au = some ⟨b, o, none⟩ ∧ L ≤ b ∧ b < w.heap.size ∧ Kd w b 5 ∧ w.frozen? ⟨b, o + i, none⟩ = false ∧ w.cell? ⟨b, o + i, none⟩ = some (.int .u8 x) ∧ Hid (x = (((bs.getD k []).getD i 0).toNat : Int)) ∧
    ∀ z : UInt8, OwnRow eBlk (w.setCell ⟨b, o + i, none⟩ (.int .u8 (z.toNat : Int))) rb 0 (.slice A n c) (bs.set k ((bs.getD k []).set i z)) ∧ OwnRow eWr (w.setCell ⟨b, o + i, none⟩ (.int .u8 (z.toNat : Int))) rb 0 lv ls) := by
 obtain ⟨css, hc, ho⟩ := hb
 obtain ⟨vs, rfl, hvl, hv⟩ := css_single _ _ _ hc
 rw [map_single_flat] at ho
 obtain ⟨css', hc', ho'⟩ := hl
 obtain ⟨us, rfl, hul, hu⟩ := css_pair _ _ _ hc'
 rw [lcells_flat] at ho'
 have hn : n = bs.length := by
  rcases ho.2 with ⟨h1, h2⟩ | ⟨g, cap, cur, h1, _⟩
  ·injection h1 with _ h1 _; omega
  ·injection h1
 subst hn
 obtain ⟨b', l', n', m', vs', us', ea, hr1, hr2, hI⟩ := ha
 simp only [Value.agg.injEq, Array.mk.injEq, List.cons.injEq, and_true] at ea
 obtain ⟨rfl, rfl⟩ := ea
 have en : n' = bs.length := by
  obtain ⟨_, _, e0, _⟩ := own_shape hr1
  injection e0 with _ e0 _
  exact e0.symm
 subst en
 have e1 := own_unique hr1 ho
 subst e1
 have em : m' = ls.length := by
  obtain ⟨_, _, e0, _⟩ := own_shape hr2
  obtain ⟨_, _, e1, _⟩ := own_shape ho'
  rw [e0] at e1
  injection e1
 subst em
 have e2 := lcells_inj (own_unique hr2 ho')
 subst e2
 obtain ⟨g, hA, _, hkg, _, hcell, _⟩ := own_setAt ho hk
 obtain ⟨Au, nu, cu, eu, hby, hlu⟩ := (hv k hk).form
 have hvk : vs'[k]? = some (.slice Au nu cu) := by
  rw [← eu, List.getD_eq_getElem?_getD, List.getElem?_eq_getElem (by omega)]
  rfl
 refine ⟨g, Au, nu, cu, hA, hkg.lt, hcell.trans hvk, hlu, Sl.cap hby, fun hi => ?_⟩
 have hvk2 := hv k hk
 rw [eu] at hvk2
 obtain ⟨b, o, rfl, hkd, hfz, hcl, hset⟩ := hvk2.byte rfl hi
 refine ⟨b, o, _, rfl, hI.low (i := k) (by rw [List.getElem?_append_left (by omega)]; exact hvk) rfl, hkd.lt, hkd, hfz, hcl, rfl, fun z => ⟨?_, ?_⟩⟩
 ·refine ⟨vs'.map fun v => [v], ⟨by simp [hvl], fun j hj => ?_⟩, by rw [map_single_flat, List.length_set]; exact own_kd ho hkd (by decide) _ rfl _⟩
  rw [List.length_set] at hj
  rw [getD_map _ (.bool false) _ _ _ (by omega), getD_set]
  refine ⟨_, rfl, ?_⟩
  by_cases hjk : k = j
  ·subst hjk
   rw [if_pos ⟨rfl, hk⟩, eu]
   exact hset z
  ·rw [if_neg (fun h => hjk h.1)]
   refine (hv j hj).other rfl ?_ _
   have hvj : vs'[j]? = some (vs'.getD j (.bool false)) := by
    rw [List.getD_eq_getElem?_getD, List.getElem?_eq_getElem (by omega)]
    rfl
   exact hI.ne (l := vs' ++ us'.map Prod.snd) (i := k) (j := j) hjk (by rw [List.getElem?_append_left (by omega)]; exact hvk) (by rw [List.getElem?_append_left (by omega)]; exact hvj) rfl
 ·refine ⟨us'.map fun p => [Value.int .i64 p.1, p.2], ⟨by simp [hul], fun j hj => ?_⟩, by rw [lcells_flat]; exact own_kd ho' hkd (by decide) _ rfl _⟩
  rw [getD_map _ (0, .bool false) _ _ _ (by omega)]
  refine ⟨_, ?_, (hu j hj).2.other rfl ?_ _⟩
  ·rw [(hu j hj).1]; rfl
  ·have huj : (us'.map Prod.snd)[j]? = some (us'.getD j (0, .bool false)).2 := by
    rw [List.getElem?_map, List.getD_eq_getElem?_getD, List.getElem?_eq_getElem (by omega)]
    rfl
   exact hI.ne (l := vs' ++ us'.map Prod.snd) (i := k) (j := vs'.length + j) (by omega) (by rw [List.getElem?_append_left (by omega)]; exact hvk) (by rw [List.getElem?_append_right (by omega), Nat.add_sub_cancel_left]; exact huj) rfl
end Go.Proofs.YtdmnmfnmaccmoaaGreatDoor
/- Walks: disk.Spoil. -/
namespace Go.Proofs.YtdmnmfnmaccmoaaGreatDoor
open Go Go.RowKit
theorem xor_u8 (a : UInt8) (y : Int) : bits .xor .u8 (a.toNat : Int) (IntKind.u8.wrap y) = ((a ^^^ b8 y).toNat : Int) := by
 have e : IntKind.u8.wrap y = ((b8 y).toNat : Int) := by rw [b8_toNat, IntKind.wrap_u8]; omega
 rw [e]
 generalize b8 y = c
 show IntKind.u8.wrap ((BitVec.ofInt 8 (a.toNat : Int) ^^^ BitVec.ofInt 8 (c.toNat : Int)).toNat : Int) = _
 have h1 : ∀ x : UInt8, (BitVec.ofInt 8 (x.toNat : Int)).toNat = x.toNat := fun x => by
  rw [BitVec.ofInt_natCast, BitVec.toNat_ofNat]
  exact Nat.mod_eq_of_lt x.toNat_lt
 rw [BitVec.toNat_xor, h1, h1, ← UInt8.toNat_xor, IntKind.wrap_u8]
 have := (a ^^^ c).toNat_lt
 omega
set_option maxRecDepth 100000 in
set_option maxHeartbeats 4000000 in
theorem dskSpoil_v {T : List TypeId} {base : Nat} {v : Value} {d : Dsk} {k n y : Int} {w : World} (h : DskV T w base v d) (hk : DskOk d) :
  Calls Tryz.prog 22 #[v, .int .i64 k, .int .i64 n, .int .i64 y] w fun e w' => ∃ v', e = .returned v' ∧ OwnD w w' v' (dSpoil d k n y) ∧ Ext w w' := by
 obtain ⟨A, m, c, E, e, f, rfl, HN, HE, _, _, hmc, hef⟩ := h.form
 have he4 : e ≤ 4096 := by have := hk.late; have := HE.out; omega
 have hm4 : m ≤ 4096 := by have := hk.blocks; have := HN.out; omega
 have Hk := Lib.hid hk
 have hp : ∀ v, dSpoil d k n y = v → Hid (dSpoil d k n y = v) := fun _ h => h
 clear hk
 go_enter Tryz.func22, Tryz.ntmps22
 go_wp2_with fail
 obtain ⟨W, hW⟩ : ∃ W, W = (w.alloc (.cells #[.slice A m c, .slice E e f] 27)).alloc (.cells #[.slice none 0 0, .slice none 0 0] 27) := ⟨_, rfl⟩
 rw [← hW]
 have bR : Box W (w.heap.size + 1) 27 #[.slice none 0 0, .slice none 0 0] := by rw [hW]; exact Box.new _ _ _ (size_alloc _ _).symm
 have hwW : Ext w W := by rw [hW]; exact ext_trans (ext_alloc _ _) (ext_alloc _ _)
 have hzW : W.heap.size = w.heap.size + 2 := by rw [hW]; simp
 clear hW
 refine (dskOwn_a (h.ext hwW) Hk.out).mono ?_
 rintro e0 w1 ⟨_, rfl, ⟨vb, vl, rfl, hob, hol⟩, hap, he1⟩
 obtain ⟨A1, n1, c1, rfl, hc1, _, HN1⟩ := hob.form
 obtain ⟨A2, e1, c3, rfl, hc3, _, HE1⟩ := hol.form
 have hnn : n1 = m := HN1.out.trans HN.out.symm
 have hee : e1 = e := HE1.out.trans HE.out.symm
 subst hnn hee
 have hz1 := he1.size
 have hlt0 : w.heap.size < w1.heap.size := by omega
 have hlt1 : w.heap.size + 1 < w1.heap.size := by omega
 have bR1 := bR.ext he1
 have hww : Ext w w1 := ext_trans hwW he1
 obtain ⟨r0, r1⟩ := bR1.cells2
 have zR := bR1.free
 have kR := bR1.kd
 have hpar : ∀ j : Nat, j < n1 → (d.blocks.getD j []).length = (d.blocks.getD j []).length := fun _ _ => rfl
 clear bR hpar h
 by_cases g1 : 0 ≤ k
 ·by_cases g2 : k < (n1 : Int)
  ·obtain ⟨j, rfl⟩ : ∃ j : Nat, k = (j : Int) := ⟨k.toNat, by omega⟩
   have hj : j < n1 := by omega
   by_cases g3 : 0 ≤ n
   ·obtain ⟨i, rfl⟩ : ∃ i : Nat, n = (i : Int) := ⟨n.toNat, by omega⟩
    obtain ⟨g, Au, nu, cu, rfl, hg, cg, Hnu, hcu, hby⟩ := spoil_rows (i := i) hob hol hap hj
    by_cases g4 : i < nu
    ·obtain ⟨b, o, x, rfl, hLb, hb, kb, fb, cb, Hx, hset⟩ := hby g4
     have HP := hp (⟨d.blocks.set j ((d.blocks.getD j []).set i ((d.blocks.getD j []).getD i 0 ^^^ b8 y)), d.late⟩) (by
      unfold dSpoil
      rw [if_pos ⟨g1, by rw [← HN.out]; exact g2, g3, by rw [Int.toNat_natCast, ← Hnu.out]; omega⟩]
      simp)
     have hx : bits .xor .u8 x (y % 256) = (((d.blocks.getD j []).getD i 0 ^^^ b8 y).toNat : Int) := by rw [Hx.out, ← IntKind.wrap_u8]; exact xor_u8 _ _
     obtain ⟨s1, s2⟩ := hset ((d.blocks.getD j []).getD i 0 ^^^ b8 y)
     generalize hz : (((d.blocks.getD j []).getD i 0 ^^^ b8 y).toNat : Int) = z at hx s1 s2
     have q4 : (i : Int) < (nu : Int) := by omega
     have hneR := Kd.ne kb kR (by decide)
     clear hz hap
     go_wp2
     ((try simp only [Exit.inBlock, Exit.then]); refine bodyPost_ret (v := ?_) ?resultOf rfl ?_; case resultOf => (rw [results_cell1 rfl]; go_simp; rfl))
     rw [HP.out]
     have kR2 := kR.set ⟨b, o + i, none⟩ (.int .u8 z)
     refine ⟨_, rfl, ⟨_, _, rfl, (s1.kB (by (repeat (with_reducible (first | assumption | exact Kept.refl _ _ _ | (apply Kept.setK; rotate_left; (repeat (first | assumption | apply Kd.set | apply Kd.alloc | apply Kd.drew)); decide; omega) | refine Kept.allocK ?_ _ | refine Kept.drewK ?_))))).more (rb' := w.heap.size) (by omega) (Nat.le_refl _), (s2.kW (by (repeat (with_reducible (first | assumption | exact Kept.refl _ _ _ | (apply Kept.setK; rotate_left; (repeat (first | assumption | apply Kd.set | apply Kd.alloc | apply Kd.drew)); decide; omega) | refine Kept.allocK ?_ _ | refine Kept.drewK ?_))))).more (rb' := w.heap.size) (by omega) (Nat.le_refl _)⟩, ?_⟩
     (repeat (with_reducible (first | assumption | exact Below.refl _ _ | refine Below.setCell ?_ (by simp <;> omega) _ | refine Below.alloc ?_ (by simp <;> omega) _ | refine Below.drew ?_ | refine below_drewN ?_ _)))
    ·have q4 : decide ((i : Int) < (nu : Int)) = false := by simp; omega
     have q4' : (nu : Int) ≤ (i : Int) := by omega
     have HP := hp d (by unfold dSpoil; rw [if_neg (by rintro ⟨_, _, _, h⟩; rw [Int.toNat_natCast, ← Hnu.out] at h; omega)])
     clear g4 hap
     go_wp2
     ((try simp only [Exit.inBlock, Exit.then]); refine bodyPost_ret (v := ?_) ?resultOf rfl ?_; case resultOf => (rw [results_cell1 rfl]; go_simp; rfl))
     rw [HP.out]
     refine ⟨_, rfl, ⟨_, _, rfl, (hob.kB (by (repeat (with_reducible (first | assumption | exact Kept.refl _ _ _ | (apply Kept.setK; rotate_left; (repeat (first | assumption | apply Kd.set | apply Kd.alloc | apply Kd.drew)); decide; omega) | refine Kept.allocK ?_ _ | refine Kept.drewK ?_))))).more (rb' := w.heap.size) (by omega) (Nat.le_refl _), (hol.kW (by (repeat (with_reducible (first | assumption | exact Kept.refl _ _ _ | (apply Kept.setK; rotate_left; (repeat (first | assumption | apply Kd.set | apply Kd.alloc | apply Kd.drew)); decide; omega) | refine Kept.allocK ?_ _ | refine Kept.drewK ?_))))).more (rb' := w.heap.size) (by omega) (Nat.le_refl _)⟩, ?_⟩
     (repeat (with_reducible (first | assumption | exact Below.refl _ _ | refine Below.setCell ?_ (by simp <;> omega) _ | refine Below.alloc ?_ (by simp <;> omega) _ | refine Below.drew ?_ | refine below_drewN ?_ _)))
   ·have q3 : decide (0 ≤ n) = false := by simpa using g3
    have q3' : n < 0 := by omega
    have HP := hp d (by unfold dSpoil; rw [if_neg (fun h => g3 h.2.2.1)])
    clear g3 hap
    go_wp2
    ((try simp only [Exit.inBlock, Exit.then]); refine bodyPost_ret (v := ?_) ?resultOf rfl ?_; case resultOf => (rw [results_cell1 rfl]; go_simp; rfl))
    rw [HP.out]
    refine ⟨_, rfl, ⟨_, _, rfl, (hob.kB (by (repeat (with_reducible (first | assumption | exact Kept.refl _ _ _ | (apply Kept.setK; rotate_left; (repeat (first | assumption | apply Kd.set | apply Kd.alloc | apply Kd.drew)); decide; omega) | refine Kept.allocK ?_ _ | refine Kept.drewK ?_))))).more (rb' := w.heap.size) (by omega) (Nat.le_refl _), (hol.kW (by (repeat (with_reducible (first | assumption | exact Kept.refl _ _ _ | (apply Kept.setK; rotate_left; (repeat (first | assumption | apply Kd.set | apply Kd.alloc | apply Kd.drew)); decide; omega) | refine Kept.allocK ?_ _ | refine Kept.drewK ?_))))).more (rb' := w.heap.size) (by omega) (Nat.le_refl _)⟩, ?_⟩
    (repeat (with_reducible (first | assumption | exact Below.refl _ _ | refine Below.setCell ?_ (by simp <;> omega) _ | refine Below.alloc ?_ (by simp <;> omega) _ | refine Below.drew ?_ | refine below_drewN ?_ _)))
  ·have q2 : decide (k < (n1 : Int)) = false := by simpa using g2
   have q2' : (n1 : Int) ≤ k := by omega
   have HP := hp d (by unfold dSpoil; rw [if_neg (fun h => g2 (by rw [HN.out]; exact h.2.1))])
   clear g2 hap
   go_wp2
   ((try simp only [Exit.inBlock, Exit.then]); refine bodyPost_ret (v := ?_) ?resultOf rfl ?_; case resultOf => (rw [results_cell1 rfl]; go_simp; rfl))
   rw [HP.out]
   refine ⟨_, rfl, ⟨_, _, rfl, (hob.kB (by (repeat (with_reducible (first | assumption | exact Kept.refl _ _ _ | (apply Kept.setK; rotate_left; (repeat (first | assumption | apply Kd.set | apply Kd.alloc | apply Kd.drew)); decide; omega) | refine Kept.allocK ?_ _ | refine Kept.drewK ?_))))).more (rb' := w.heap.size) (by omega) (Nat.le_refl _), (hol.kW (by (repeat (with_reducible (first | assumption | exact Kept.refl _ _ _ | (apply Kept.setK; rotate_left; (repeat (first | assumption | apply Kd.set | apply Kd.alloc | apply Kd.drew)); decide; omega) | refine Kept.allocK ?_ _ | refine Kept.drewK ?_))))).more (rb' := w.heap.size) (by omega) (Nat.le_refl _)⟩, ?_⟩
   (repeat (with_reducible (first | assumption | exact Below.refl _ _ | refine Below.setCell ?_ (by simp <;> omega) _ | refine Below.alloc ?_ (by simp <;> omega) _ | refine Below.drew ?_ | refine below_drewN ?_ _)))
 ·have q1 : decide (0 ≤ k) = false := by simpa using g1
  have q1' : k < 0 := by omega
  have HP := hp d (by unfold dSpoil; rw [if_neg (fun h => g1 h.1)])
  clear g1 hap
  go_wp2
  ((try simp only [Exit.inBlock, Exit.then]); refine bodyPost_ret (v := ?_) ?resultOf rfl ?_; case resultOf => (rw [results_cell1 rfl]; go_simp; rfl))
  rw [HP.out]
  refine ⟨_, rfl, ⟨_, _, rfl, (hob.kB (by (repeat (with_reducible (first | assumption | exact Kept.refl _ _ _ | (apply Kept.setK; rotate_left; (repeat (first | assumption | apply Kd.set | apply Kd.alloc | apply Kd.drew)); decide; omega) | refine Kept.allocK ?_ _ | refine Kept.drewK ?_))))).more (rb' := w.heap.size) (by omega) (Nat.le_refl _), (hol.kW (by (repeat (with_reducible (first | assumption | exact Kept.refl _ _ _ | (apply Kept.setK; rotate_left; (repeat (first | assumption | apply Kd.set | apply Kd.alloc | apply Kd.drew)); decide; omega) | refine Kept.allocK ?_ _ | refine Kept.drewK ?_))))).more (rb' := w.heap.size) (by omega) (Nat.le_refl _)⟩, ?_⟩
  (repeat (with_reducible (first | assumption | exact Below.refl _ _ | refine Below.setCell ?_ (by simp <;> omega) _ | refine Below.alloc ?_ (by simp <;> omega) _ | refine Below.drew ?_ | refine below_drewN ?_ _)))
end Go.Proofs.YtdmnmfnmaccmoaaGreatDoor
/- Walks: the document's PutBlock. -/
namespace Go.Proofs.YtdmnmfnmaccmoaaGreatDoor
open Go Go.RowKit
end Go.Proofs.YtdmnmfnmaccmoaaGreatDoor
/- Walks: the document's Keep. -/
namespace Go.Proofs.YtdmnmfnmaccmoaaGreatDoor
open Go Go.RowKit
end Go.Proofs.YtdmnmfnmaccmoaaGreatDoor
/- Walks: the document's Flush. -/
namespace Go.Proofs.YtdmnmfnmaccmoaaGreatDoor
open Go Go.RowKit
end Go.Proofs.YtdmnmfnmaccmoaaGreatDoor
/- Walks: the document's Spoil. -/
namespace Go.Proofs.YtdmnmfnmaccmoaaGreatDoor
open Go Go.RowKit
def spTo (d : Dsk) (k n y : Int) (a : Nat) : List (List UInt8) := (List.range a).map fun i : Nat => (dSpoil d k n y).blocks.getD i []
end Go.Proofs.YtdmnmfnmaccmoaaGreatDoor
/- Walks: a new disk, the document's. -/
namespace Go.Proofs.YtdmnmfnmaccmoaaGreatDoor
open Go Go.RowKit
end Go.Proofs.YtdmnmfnmaccmoaaGreatDoor
/- Plain: a right disk is small, and its writes are of blocks that there are. -/
namespace Go.Proofs.YtdmnmfnmaccmoaaGreatDoor
open Go Go.RowKit
theorem DskV.parts {T : List TypeId} {w : World} {base : Nat} {v : Value} {d : Dsk} (h : DskV T w base v d) : ∃ A n c E m e, v = .agg #[.slice A n c, .slice E m e] := by
 obtain ⟨A, n, c, E, m, e, h, _⟩ := h.form
 exact ⟨A, n, c, E, m, e, h⟩
theorem OwnD.v {w0 w : World} {v : Value} {d : Dsk} (h : OwnD w0 w v d) : DskV tD w 0 v d := h.dskV (List.Subset.refl _)
end Go.Proofs.YtdmnmfnmaccmoaaGreatDoor
