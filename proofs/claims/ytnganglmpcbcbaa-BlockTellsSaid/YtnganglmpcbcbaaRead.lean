/- Walks: a block's record read, the package's. -/
import Derived.Test.YtnganglmpcbcbaaBytes
namespace Go.Proofs.Ytnganglmpcbcbaa
open Go Go.RowKit

theorem own_zero (w0 w : World) : OwnRec w0 w (.agg #[.int .i64 0, .int .i64 0, .int .i64 0, .slice none 0 0]) rZero := ⟨_, _, rfl, own_nil _ _ _ _⟩

theorem any_true (l : List UInt8) (s t j : Nat) (hj : j < t) (hl : s + j < l.length) (h : l.getD (s + j) 0 ≠ 0) : ((l.drop s).take t).any (fun c => c != 0) = true := by
  rw [List.any_eq_true]
  refine ⟨l.getD (s + j) 0, ?_, by simpa using h⟩
  rw [List.mem_take_iff_getElem]
  refine ⟨j, by rw [List.length_drop]; omega, ?_⟩
  rw [List.getElem_drop, List.getD_eq_getElem?_getD, List.getElem?_eq_getElem hl]
  rfl
theorem any_succ (l : List UInt8) (s j : Nat) (h : ((l.drop s).take j).any (fun c => c != 0) = false) (hj : l.getD (s + j) 0 = 0) : ((l.drop s).take (j + 1)).any (fun c => c != 0) = false := by
  rcases Nat.lt_or_ge (s + j) l.length with hl | hl
  · rw [List.take_succ_eq_append_getElem (by rw [List.length_drop]; omega), List.any_append, h, Bool.false_or]
    rw [List.getD_eq_getElem?_getD, List.getElem?_eq_getElem hl] at hj
    simpa using hj
  · rw [List.take_of_length_le (by rw [List.length_drop]; omega)] at h
    rw [List.take_of_length_le (by rw [List.length_drop]; omega)]
    exact h

set_option maxRecDepth 100000 in
set_option maxHeartbeats 2000000 in
theorem read_w {A : Option Addr} {n c B : Nat} {l : List UInt8} {k : Int} (w : World) (h : By w B A n c l) (hB : B ≤ w.heap.size) :
    Calls Try.prog 42 #[.slice A n c, .int .i64 k] w fun e w' => ∃ v q, e = .returned (.tuple #[v, .int .i64 q]) ∧ q = (rRead l k).2 ∧ OwnRec w w' v (rRead l k).1 ∧ Ext w w' := by
  have hl := h.len
  have hc := Sl.cap h
  have hm := Sl.max h
  unfold maxLen at hm
  by_cases h16 : n = 16
  · subst h16
    cases hs : sSealed l with
    | false =>
      have Hr := Lib.hid (show rRead l k = (rZero, 7) by unfold rRead; rw [if_neg (by omega), if_pos hs])
      go_enter Try.func42, Try.ntmps42
      go_wp2_with fail
      refine (sealed_q _ _ _ _ l _ (Sl.below h ((ext_alloc _ _).mono hB))).mono ?_
      rintro e w1 ⟨rfl, m, rfl⟩
      rw [hs]
      go_wp2
      ((try simp only [Exit.inBlock, Exit.then]); refine bodyPost_ret (v := ?_) ?resultOf rfl ?_; case resultOf => (rw [results_cell_tmp rfl]; go_simp; rfl))
      rw [Hr.out]
      refine ⟨_, _, rfl, rfl, own_zero _ _, ?_⟩
      (repeat (with_reducible (first | assumption | exact Below.refl _ _ | refine Below.setCell ?_ (by simp <;> omega) _ | refine Below.alloc ?_ (by simp <;> omega) _ | refine Below.drew ?_ | refine below_drewN ?_ _)))
    | true =>
      have Hs := Lib.hid hs
      go_enter Try.func42, Try.ntmps42
      go_wp2_with fail
      refine (sealed_w _ _ _ _ l _ (Sl.below h ((ext_alloc _ _).mono hB))).mono ?_
      rintro e V ⟨rfl, heV⟩
      have he : Ext w V := ext_trans (ext_alloc _ _) heV
      have bR : Box V w.heap.size 32 _ := (Box.new w _ _ rfl).ext heV
      have hzV := heV.size
      rw [size_alloc] at hzV
      rw [hs]
      have hb : By V B A 16 c l := Sl.below h (he.mono hB)
      obtain ⟨b, o, x0, rfl, hbB, c0, x00, x01, X0⟩ := hb.byte (k := 0) (by omega)
      obtain ⟨_, _, x1, e', _, c1, x10, x11, X1⟩ := hb.byte (k := 1) (by omega)
      cases e'
      obtain ⟨_, _, x2, e', _, c2, x20, x21, X2⟩ := hb.byte (k := 2) (by omega)
      cases e'
      obtain ⟨_, _, x3, e', _, c3, x30, x31, X3⟩ := hb.byte (k := 3) (by omega)
      cases e'
      obtain ⟨_, _, x4, e', _, c4, x40, x41, X4⟩ := hb.byte (k := 4) (by omega)
      cases e'
      obtain ⟨_, _, x5, e', _, c5, x50, x51, X5⟩ := hb.byte (k := 5) (by omega)
      cases e'
      obtain ⟨u, rfl⟩ := Int.eq_ofNat_of_zero_le x50
      have p0 : IntKind.i64.wrap x0 = x0 := IntWalk.i64_in _ (by omega)
      have p1 : IntKind.i64.wrap x1 = x1 := IntWalk.i64_in _ (by omega)
      have p2 : IntKind.i64.wrap x2 = x2 := IntWalk.i64_in _ (by omega)
      have p5 : IntKind.i64.wrap (u : Int) = (u : Int) := IntWalk.i64_in _ (by omega)
      have r0 := bR.cell 0 rfl
      have r1 := bR.cell 1 rfl
      have r2 := bR.cell 2 rfl
      have r3 := bR.cell 3 rfl
      have z0 := bR.free
      have Hl := Lib.hid hl
      clear heV hl hs
      by_cases hk : x1 = k
      · have q1 : (x1 != k) = false := by simpa using hk
        by_cases h8 : u ≤ 8
        · have q2 : decide ((8 : Int) < (u : Int)) = false := by simp; omega
          have q3 : IntKind.i64.wrap (6 + (u : Int)) = 6 + (u : Int) := IntWalk.i64_in _ (by omega)
          have q4 : decide ((6 : Int) + (u : Int) ≤ 14) = true := by simp; omega
          have q5 : (0 : Int) ≤ 6 + (u : Int) := by omega
          have q6 : (6 : Int) + (u : Int) ≤ 14 := by omega
          have q7 : (14 : Int) ≤ (c : Int) := by omega
          go_wp2_with fail
          go_loopw [44] (fun i wr => ∃ j : Nat, j ≤ 8 - u ∧ i = .int .i64 j ∧ Hid (((l.drop (6 + u)).take j).any (fun c => c != 0) = false) ∧ V = wr) (fun i _ => 8 - u - (intOf i).toNat)
          case atStart => exact ⟨0, Nat.zero_le _, rfl, (show _ = _ from by simp), rfl⟩
          case round =>
            obtain ⟨j, hj, rfl, ha, rfl⟩ := hrel
            have i0 : (0 : Int) ≤ (j : Int) := by omega
            by_cases hlt : j < 8 - u
            · have i1 : (j : Int) < ((14 - (6 + u) : Nat) : Int) := by omega
              have i2 : j < 14 - (6 + u) := by omega
              obtain ⟨_, _, y, e', _, cy, y0, y1, Y⟩ := hb.byte (k := 6 + u + j) (by omega)
              cases e'
              rw [← Nat.add_assoc] at cy
              by_cases hy : y = 0
              · subst hy
                have hs := Lib.hid (any_succ l (6 + u) j ha.out (by apply UInt8.toNat_inj.1; have := Y.out; simp only [UInt8.toNat_zero]; omega))
                go_wp2_with fail
                go_roundw
                case rel => exact ⟨j + 1, by omega, by go_num, hs, trivial⟩
                case measure => simp [intOf]; omega
              · have qy : (y != 0) = true := by simpa using hy
                have Hr := Lib.hid (show rRead l k = (rZero, 2) by
                  have e5 : (l.getD 5 0).toNat = u := by have := X5.out; omega
                  unfold rRead
                  rw [if_neg (by have := Hl.out; omega), if_neg (by rw [Hs.out]; simp), if_neg (by rw [← X1.out, hk]; simp), e5, if_neg (by omega), any_true l (6 + u) (8 - u) j hlt (by have := Hl.out; omega) (by intro e0; apply hy; rw [Y.out, e0]; rfl)]
                  rfl)
                go_wp2_with fail
                ((try simp only [Exit.inBlock, Exit.then]); refine bodyPost_ret (v := ?_) ?resultOf rfl ?_; case resultOf => (rw [results_cell_tmp rfl]; go_simp; rfl))
                rw [Hr.out]
                refine ⟨_, _, rfl, rfl, own_zero _ _, ?_⟩
                (repeat (with_reducible (first | assumption | exact Below.refl _ _ | refine Below.setCell ?_ (by simp <;> omega) _ | refine Below.alloc ?_ (by simp <;> omega) _ | refine Below.drew ?_ | refine below_drewN ?_ _)))
            · have hju : j = 8 - u := by omega
              subst hju
              have i1 : ((8 - u : Nat) : Int) = ((14 - (6 + u) : Nat) : Int) := by omega
              have hcl : By V B (some ⟨b, o + 6, none⟩) u (c - 6) ((l.drop 6).take u) := by
                have := (hb.take (k := 6 + u) (by omega)).cut (k := 6) (by omega)
                rw [if_neg (by omega), List.drop_take] at this
                simpa [Addr.add] using this
              go_wp2_with fail
              have d7 : decide ((6 : Int) + (u : Int) ≤ (c : Int)) = true := by simp; omega
              have d8 : (6 : Int) + (u : Int) ≤ (c : Int) := by omega
              have d9 : max (6 + (u : Int)) 0 = 6 + (u : Int) := by omega
              have d10 : (6 : Int) ≤ 6 + (u : Int) := by omega
              have d11 : ((6 : Int) + (u : Int)).toNat = 6 + u := by omega
              have d12 : ¬ c = 6 := by omega
              rw [Nat.add_zero] at c0
              refine wp_region_ext 23 [0, 1, 2, 3, 4, 5, 6, 7, 8, 9, 10, 11, 12, 13, 15, 16, 17, 18, 20] true rfl (by kernel_rfl) (by kernel_rfl) ?_
              have hd : Below V.heap.size V V.drew := (Below.refl _ _).drew
              apply mixF 0 (by kernel_rfl) (by rfl) (by rfl)
              · (intro w' hx; go_simp <;> with_reducible rfl)
              simp only [Act.put, List.setIfInBounds_toArray, List.set_cons_zero, List.set_cons_succ]
              apply mixF 1 (by kernel_rfl) (by rfl) (by rfl)
              · (intro w' hx; go_simp <;> with_reducible rfl)
              simp only [Act.put, List.setIfInBounds_toArray, List.set_cons_zero, List.set_cons_succ]
              apply mixF 2 (by kernel_rfl) (by rfl) (by rfl)
              · (intro w' hx; have q := (hx.cell (p := ⟨b, o, none⟩) (show b < V.heap.size by omega)).trans c0; go_simp <;> with_reducible rfl)
              simp only [Act.put, List.setIfInBounds_toArray, List.set_cons_zero, List.set_cons_succ]
              apply mixF 3 (by kernel_rfl) (by rfl) (by rfl)
              · (intro w' hx; go_simp <;> with_reducible rfl)
              simp only [Act.put, List.setIfInBounds_toArray, List.set_cons_zero, List.set_cons_succ]
              apply mixF 4 (by kernel_rfl) (by rfl) (by rfl)
              · (intro w' hx; go_simp <;> with_reducible rfl)
              simp only [Act.put, List.setIfInBounds_toArray, List.set_cons_zero, List.set_cons_succ]
              apply mixF 5 (by kernel_rfl) (by rfl) (by rfl)
              · (intro w' hx; go_simp <;> with_reducible rfl)
              simp only [Act.put, List.setIfInBounds_toArray, List.set_cons_zero, List.set_cons_succ]
              apply mixF 6 (by kernel_rfl) (by rfl) (by rfl)
              · (intro w' hx; have q := (hx.cell (p := ⟨b, o + 2, none⟩) (show b < V.heap.size by omega)).trans c2; go_simp <;> with_reducible rfl)
              simp only [Act.put, List.setIfInBounds_toArray, List.set_cons_zero, List.set_cons_succ]
              apply mixF 7 (by kernel_rfl) (by rfl) (by rfl)
              · (intro w' hx; go_simp <;> with_reducible rfl)
              simp only [Act.put, List.setIfInBounds_toArray, List.set_cons_zero, List.set_cons_succ]
              apply mixF 8 (by kernel_rfl) (by rfl) (by rfl)
              · (intro w' hx; go_simp <;> with_reducible rfl)
              simp only [Act.put, List.setIfInBounds_toArray, List.set_cons_zero, List.set_cons_succ]
              apply mixF 9 (by kernel_rfl) (by rfl) (by rfl)
              · (intro w' hx; go_simp <;> with_reducible rfl)
              simp only [Act.put, List.setIfInBounds_toArray, List.set_cons_zero, List.set_cons_succ]
              apply mixF 10 (by kernel_rfl) (by rfl) (by rfl)
              · (intro w' hx; have q := (hx.cell (p := ⟨b, o + 3, none⟩) (show b < V.heap.size by omega)).trans c3; go_simp <;> with_reducible rfl)
              simp only [Act.put, List.setIfInBounds_toArray, List.set_cons_zero, List.set_cons_succ]
              apply mixF 11 (by kernel_rfl) (by rfl) (by rfl)
              · (intro w' hx; go_simp <;> with_reducible rfl)
              simp only [Act.put, List.setIfInBounds_toArray, List.set_cons_zero, List.set_cons_succ]
              apply mixF 12 (by kernel_rfl) (by rfl) (by rfl)
              · (intro w' hx; go_simp <;> with_reducible rfl)
              simp only [Act.put, List.setIfInBounds_toArray, List.set_cons_zero, List.set_cons_succ]
              apply mixF 13 (by kernel_rfl) (by rfl) (by rfl)
              · (intro w' hx; have q := (hx.cell (p := ⟨b, o + 4, none⟩) (show b < V.heap.size by omega)).trans c4; go_simp <;> with_reducible rfl)
              simp only [Act.put, List.setIfInBounds_toArray, List.set_cons_zero, List.set_cons_succ]
              apply mixF 15 (by kernel_rfl) (by rfl) (by rfl)
              · (intro w' hx; go_simp <;> with_reducible rfl)
              simp only [Act.put, List.setIfInBounds_toArray, List.set_cons_zero, List.set_cons_succ]
              apply mixF 16 (by kernel_rfl) (by rfl) (by rfl)
              · (intro w' hx; go_simp <;> with_reducible rfl)
              simp only [Act.put, List.setIfInBounds_toArray, List.set_cons_zero, List.set_cons_succ]
              apply mixF 17 (by kernel_rfl) (by rfl) (by rfl)
              · (intro w' hx; go_simp <;> with_reducible rfl)
              simp only [Act.put, List.setIfInBounds_toArray, List.set_cons_zero, List.set_cons_succ]
              apply mixF 18 (by kernel_rfl) (by rfl) (by rfl)
              · (intro w' hx; go_simp <;> with_reducible rfl)
              simp only [Act.put, List.setIfInBounds_toArray, List.set_cons_zero, List.set_cons_succ]
              refine mixS2 14 21 (by kernel_rfl) (by kernel_rfl) (by rfl) (by rfl) (by rfl) (by rfl) (fun K hK => ?_) (fun K hK => ?_)
              · skip
                go_wp2_with (go_at_call 29; refine (number_w x3 x4 _ ⟨x30, x31⟩ ⟨x40, x41⟩).mono ?_; rintro e w1 ⟨rfl, rfl⟩)
                refine hK.out _ _ (Below.refl _ _) ?_
                clear hK K
                try simp only [Act.put, List.setIfInBounds_toArray, List.set_cons_zero, List.set_cons_succ]
                refine mixS2 19 21 (by kernel_rfl) (by kernel_rfl) (by rfl) (by rfl) (by rfl) (by rfl) (fun K hK => ?_) (fun K hK => ?_)
                · skip
                  go_wp2_with (go_at_call 111; refine (clone_w _ (Sl.below hcl (hd.mono (by omega))) (by have := hd.size; omega) (by rw [blim_def]; omega)).mono ?_; rintro e w1 ⟨v1, rfl, hown, he1⟩; obtain ⟨A1, c1, rfl, hs1⟩ := own_shape hown)
                  refine hK.out _ _ (he1) ?_
                  clear hK K
                  try simp only [Act.put, List.setIfInBounds_toArray, List.set_cons_zero, List.set_cons_succ]
                  have hownB := hown
                  have hown := own_more (base' := V.heap.size) hown hd.size
                  have hd := ext_trans hd he1
                  apply mixF 20 (by kernel_rfl) (by rfl) (by rfl)
                  · (intro w' hx; go_simp <;> with_reducible rfl)
                  simp only [Act.put, List.setIfInBounds_toArray, List.set_cons_zero, List.set_cons_succ]
                  refine mixS 21 (by kernel_rfl) (by kernel_rfl) (by rfl) (by rfl) (fun K hK => ?_)
                  have hd1 := hd
                  go_wp2
                  refine hK.out _ _ (ext_alloc _ _) ?_
                  clear hK K
                  try simp only [Act.put, List.setIfInBounds_toArray, List.set_cons_zero, List.set_cons_succ]
                  obtain ⟨w5, hw5⟩ : ∃ w5, w5 = w1.alloc (.cells #[.int .i64 0, .int .i64 0, .int .i64 0, .slice none 0 0] 32) := ⟨_, rfl⟩
                  first | rw [← hw5] | rw [show (V.alloc (.cells #[.int .i64 0, .int .i64 0, .int .i64 0, .slice none 0 0] 32)).drew = w5 by rw [hw5]; rfl]
                  have he5 : Ext w1 w5 := by rw [hw5]; exact ext_alloc _ _
                  have b9 : Box w5 w1.heap.size 32 #[.int .i64 0, .int .i64 0, .int .i64 0, .slice none 0 0] := by rw [hw5]; exact Box.new _ _ _ rfl
                  have hd := ext_trans hd he5
                  have hlt9 := b9.lt
                  clear hw5
                  have n0 := b9.cell 0 rfl
                  have n1 := b9.cell 1 rfl
                  have n2 := b9.cell 2 rfl
                  have n3 := b9.cell 3 rfl
                  have zn := b9.free
                  refine mixLast 22 (by kernel_rfl) (by kernel_rfl) (by kernel_rfl) (by rfl) (by rfl) (fun K hK => ?_)
                  have hK' := Lib.hid hK
                  clear hK
                  go_wp2
                  refine hK'.out _ _ ?_
                  clear hK' K n0 n1 n2 n3 zn
                  refine NoPanic.normal ?_
                  have hzG : V.heap.size ≤ w1.heap.size := by first | exact hd1.size | exact Nat.le_refl _
                  obtain ⟨w6, hw6⟩ : ∃ w6, w6 = (((w5.setCell ⟨w1.heap.size, 0, none⟩ (.int .i64 x0)).setCell ⟨w1.heap.size, 1, none⟩ (.int .i64 x2)).setCell ⟨w1.heap.size, 2, none⟩ (.int .i64 (x3 * 256 + x4))).setCell ⟨w1.heap.size, 3, none⟩ (.slice A1 u c1) := ⟨_, rfl⟩
                  rw [← hw6]
                  have b9 : Box w6 w1.heap.size 32 #[.int .i64 x0, .int .i64 x2, .int .i64 (x3 * 256 + x4), .slice A1 u c1] := by
                    rw [hw6]
                    exact (((b9.set 0 _).set 1 _).set 2 _).set 3 _
                  have hd6 : Below V.heap.size V w6 := by rw [hw6]; (repeat (with_reducible (first | assumption | exact Below.refl _ _ | refine Below.setCell ?_ (by simp <;> omega) _ | refine Below.alloc ?_ (by simp <;> omega) _ | refine Below.drew ?_ | refine below_drewN ?_ _)))
                  have he6 : Ext w1 w6 := by rw [hw6]; have he5 : Below w1.heap.size w1 w5 := he5; (repeat (with_reducible (first | assumption | exact Below.refl _ _ | refine Below.setCell ?_ (by simp <;> omega) _ | refine Below.alloc ?_ (by simp <;> omega) _ | refine Below.drew ?_ | refine below_drewN ?_ _)))
                  have own6 := own_ext hown he6
                  clear hw6 hd
                  have bR6 := bR.below hd6 (by omega)
                  clear bR r0 r1 r2 r3 z0
                  have n0 := b9.cell 0 rfl
                  have n1 := b9.cell 1 rfl
                  have n2 := b9.cell 2 rfl
                  have n3 := b9.cell 3 rfl
                  go_wp2_with fail
                  refine (wrong_w (r := ⟨x0, x2, x3 * 256 + x4, (l.drop 6).take u⟩) _ (Sl.of_own own6)).mono ?_
                  rintro e w7 ⟨rfl, he7⟩
                  obtain ⟨z, hz⟩ : ∃ z, z = rWrong ⟨x0, x2, x3 * 256 + x4, (l.drop 6).take u⟩ := ⟨_, rfl⟩
                  rw [← hz]
                  have hT : rTold l = ⟨x0, x2, x3 * 256 + x4, (l.drop 6).take u⟩ := by
                    unfold rTold sNum
                    rw [← X0.out, ← X2.out, ← X3.out, ← X4.out]
                    have e5 : (l.getD 5 0).toNat = u := by have := X5.out; omega
                    rw [e5]
                  have hR : rRead l k = if rWrong (rTold l) ≠ 0 then (rZero, rWrong (rTold l)) else (rTold l, 0) := by
                    have e5 : (l.getD 5 0).toNat = u := by have := X5.out; omega
                    unfold rRead
                    rw [if_neg (by have := Hl.out; omega), if_neg (by rw [Hs.out]; simp), if_neg (by rw [← X1.out, hk]; simp), e5, if_neg (by omega), ha.out]
                    rfl
                  rw [hT, ← hz] at hR
                  have b9 := b9.ext he7
                  have bR6 := bR6.ext he7
                  have own7 := own_ext own6 he7
                  have hd7 : Below w.heap.size w w7 := he.trans ((hd6.mono (by omega)).trans (he7.mono (by have := hd6.size; omega)))
                  have n0 := b9.cell 0 rfl
                  have n1 := b9.cell 1 rfl
                  have n2 := b9.cell 2 rfl
                  have n3 := b9.cell 3 rfl
                  have r0 := bR6.cell 0 rfl
                  have r1 := bR6.cell 1 rfl
                  have r2 := bR6.cell 2 rfl
                  have r3 := bR6.cell 3 rfl
                  have zr := bR6.free
                  by_cases hz0 : z = 0
                  · subst hz0
                    have Hr : Hid (rRead l k = (⟨x0, x2, x3 * 256 + x4, (l.drop 6).take u⟩, 0)) := by rw [hR]; rfl
                    have Hlu : Hid (((l.drop 6).take u).length = u) := by
                      show _ = _
                      have := Hl.out
                      rw [List.length_take, List.length_drop]
                      omega
                    clear hR hT hz hs1 own6 hownB
                    go_wp2
                    ((try simp only [Exit.inBlock, Exit.then]); refine bodyPost_ret (v := ?_) ?resultOf rfl ?_; case resultOf => (rw [results_cell_tmp rfl]; go_simp; rfl))
                    rw [Hr.out]
                    refine ⟨_, _, rfl, rfl, ⟨A1, c1, ?_, ?_⟩, ?_⟩
                    · rw [Hlu.out]
                    · rw [Hlu.out]
                      refine own_more (base := V.heap.size) ?_ (by omega)
                      (repeat (with_reducible (first | assumption | refine own_set ?_ (by simp <;> omega) _ | refine own_alloc ?_ _)))
                    · (repeat (with_reducible (first | assumption | exact Below.refl _ _ | refine Below.setCell ?_ (by simp <;> omega) _ | refine Below.alloc ?_ (by simp <;> omega) _ | refine Below.drew ?_ | refine below_drewN ?_ _)))
                  · have qz : (z != 0) = true := by simpa using hz0
                    have Hr : Hid (rRead l k = (rZero, z)) := by show _ = _; rw [hR, if_pos hz0]
                    clear hR hT hz hs1 own6 hownB
                    go_wp2
                    ((try simp only [Exit.inBlock, Exit.then]); refine bodyPost_ret (v := ?_) ?resultOf rfl ?_; case resultOf => (rw [results_cell_tmp rfl]; go_simp; rfl))
                    rw [Hr.out]
                    refine ⟨_, _, rfl, rfl, own_zero _ _, ?_⟩
                    (repeat (with_reducible (first | assumption | exact Below.refl _ _ | refine Below.setCell ?_ (by simp <;> omega) _ | refine Below.alloc ?_ (by simp <;> omega) _ | refine Below.drew ?_ | refine below_drewN ?_ _)))
                · skip
                  go_wp2
                  refine hK.out _ _ (ext_alloc _ _) ?_
                  clear hK K
                  try simp only [Act.put, List.setIfInBounds_toArray, List.set_cons_zero, List.set_cons_succ]
                  obtain ⟨w5, hw5⟩ : ∃ w5, w5 = V.drew.alloc (.cells #[.int .i64 0, .int .i64 0, .int .i64 0, .slice none 0 0] 32) := ⟨_, rfl⟩
                  first | rw [← hw5] | rw [show (V.alloc (.cells #[.int .i64 0, .int .i64 0, .int .i64 0, .slice none 0 0] 32)).drew = w5 by rw [hw5]; rfl]
                  have he5 : Ext V.drew w5 := by rw [hw5]; exact ext_alloc _ _
                  have b9 : Box w5 V.heap.size 32 #[.int .i64 0, .int .i64 0, .int .i64 0, .slice none 0 0] := by rw [hw5]; exact Box.new _ _ _ rfl
                  have hd := ext_trans hd he5
                  have hlt9 := b9.lt
                  clear hw5
                  refine mixS 19 (by kernel_rfl) (by kernel_rfl) (by rfl) (by rfl) (fun K hK => ?_)
                  go_wp2_with (go_at_call 111; refine (clone_w _ (Sl.below hcl (hd.mono (by omega))) (by have := hd.size; omega) (by rw [blim_def]; omega)).mono ?_; rintro e w1 ⟨v1, rfl, hown, he1⟩; obtain ⟨A1, c1, rfl, hs1⟩ := own_shape hown)
                  refine hK.out _ _ (he1) ?_
                  clear hK K
                  try simp only [Act.put, List.setIfInBounds_toArray, List.set_cons_zero, List.set_cons_succ]
                  have hownB := hown
                  have hown := own_more (base' := V.heap.size) hown hd.size
                  have hd := ext_trans hd he1
                  have b9 := b9.ext he1
                  apply mixF 20 (by kernel_rfl) (by rfl) (by rfl)
                  · (intro w' hx; go_simp <;> with_reducible rfl)
                  simp only [Act.put, List.setIfInBounds_toArray, List.set_cons_zero, List.set_cons_succ]
                  have n0 := b9.cell 0 rfl
                  have n1 := b9.cell 1 rfl
                  have n2 := b9.cell 2 rfl
                  have n3 := b9.cell 3 rfl
                  have zn := b9.free
                  refine mixLast 22 (by kernel_rfl) (by kernel_rfl) (by kernel_rfl) (by rfl) (by rfl) (fun K hK => ?_)
                  have hK' := Lib.hid hK
                  clear hK
                  go_wp2
                  refine hK'.out _ _ ?_
                  clear hK' K n0 n1 n2 n3 zn
                  refine NoPanic.normal ?_
                  have hzG : V.heap.size ≤ V.heap.size := by first | exact hd1.size | exact Nat.le_refl _
                  obtain ⟨w6, hw6⟩ : ∃ w6, w6 = (((w1.setCell ⟨V.heap.size, 0, none⟩ (.int .i64 x0)).setCell ⟨V.heap.size, 1, none⟩ (.int .i64 x2)).setCell ⟨V.heap.size, 2, none⟩ (.int .i64 (x3 * 256 + x4))).setCell ⟨V.heap.size, 3, none⟩ (.slice A1 u c1) := ⟨_, rfl⟩
                  rw [← hw6]
                  have b9 : Box w6 V.heap.size 32 #[.int .i64 x0, .int .i64 x2, .int .i64 (x3 * 256 + x4), .slice A1 u c1] := by
                    rw [hw6]
                    exact (((b9.set 0 _).set 1 _).set 2 _).set 3 _
                  have hd6 : Below V.heap.size V w6 := by rw [hw6]; (repeat (with_reducible (first | assumption | exact Below.refl _ _ | refine Below.setCell ?_ (by simp <;> omega) _ | refine Below.alloc ?_ (by simp <;> omega) _ | refine Below.drew ?_ | refine below_drewN ?_ _)))
                  have own6 : w6.ownsRow V.heap.size 5 1 (.slice A1 u c1) u (u8s ((l.drop 6).take u)) := by
                    rw [hw6]
                    exact own_more (own_set (own_set (own_set (own_set hownB hlt9 _) hlt9 _) hlt9 _) hlt9 _) (by omega)
                  clear hw6 hd
                  have bR6 := bR.below hd6 (by omega)
                  clear bR r0 r1 r2 r3 z0
                  have n0 := b9.cell 0 rfl
                  have n1 := b9.cell 1 rfl
                  have n2 := b9.cell 2 rfl
                  have n3 := b9.cell 3 rfl
                  go_wp2_with fail
                  refine (wrong_w (r := ⟨x0, x2, x3 * 256 + x4, (l.drop 6).take u⟩) _ (Sl.of_own own6)).mono ?_
                  rintro e w7 ⟨rfl, he7⟩
                  obtain ⟨z, hz⟩ : ∃ z, z = rWrong ⟨x0, x2, x3 * 256 + x4, (l.drop 6).take u⟩ := ⟨_, rfl⟩
                  rw [← hz]
                  have hT : rTold l = ⟨x0, x2, x3 * 256 + x4, (l.drop 6).take u⟩ := by
                    unfold rTold sNum
                    rw [← X0.out, ← X2.out, ← X3.out, ← X4.out]
                    have e5 : (l.getD 5 0).toNat = u := by have := X5.out; omega
                    rw [e5]
                  have hR : rRead l k = if rWrong (rTold l) ≠ 0 then (rZero, rWrong (rTold l)) else (rTold l, 0) := by
                    have e5 : (l.getD 5 0).toNat = u := by have := X5.out; omega
                    unfold rRead
                    rw [if_neg (by have := Hl.out; omega), if_neg (by rw [Hs.out]; simp), if_neg (by rw [← X1.out, hk]; simp), e5, if_neg (by omega), ha.out]
                    rfl
                  rw [hT, ← hz] at hR
                  have b9 := b9.ext he7
                  have bR6 := bR6.ext he7
                  have own7 := own_ext own6 he7
                  have hd7 : Below w.heap.size w w7 := he.trans ((hd6.mono (by omega)).trans (he7.mono (by have := hd6.size; omega)))
                  have n0 := b9.cell 0 rfl
                  have n1 := b9.cell 1 rfl
                  have n2 := b9.cell 2 rfl
                  have n3 := b9.cell 3 rfl
                  have r0 := bR6.cell 0 rfl
                  have r1 := bR6.cell 1 rfl
                  have r2 := bR6.cell 2 rfl
                  have r3 := bR6.cell 3 rfl
                  have zr := bR6.free
                  by_cases hz0 : z = 0
                  · subst hz0
                    have Hr : Hid (rRead l k = (⟨x0, x2, x3 * 256 + x4, (l.drop 6).take u⟩, 0)) := by rw [hR]; rfl
                    have Hlu : Hid (((l.drop 6).take u).length = u) := by
                      show _ = _
                      have := Hl.out
                      rw [List.length_take, List.length_drop]
                      omega
                    clear hR hT hz hs1 own6 hownB
                    go_wp2
                    ((try simp only [Exit.inBlock, Exit.then]); refine bodyPost_ret (v := ?_) ?resultOf rfl ?_; case resultOf => (rw [results_cell_tmp rfl]; go_simp; rfl))
                    rw [Hr.out]
                    refine ⟨_, _, rfl, rfl, ⟨A1, c1, ?_, ?_⟩, ?_⟩
                    · rw [Hlu.out]
                    · rw [Hlu.out]
                      refine own_more (base := V.heap.size) ?_ (by omega)
                      (repeat (with_reducible (first | assumption | refine own_set ?_ (by simp <;> omega) _ | refine own_alloc ?_ _)))
                    · (repeat (with_reducible (first | assumption | exact Below.refl _ _ | refine Below.setCell ?_ (by simp <;> omega) _ | refine Below.alloc ?_ (by simp <;> omega) _ | refine Below.drew ?_ | refine below_drewN ?_ _)))
                  · have qz : (z != 0) = true := by simpa using hz0
                    have Hr : Hid (rRead l k = (rZero, z)) := by show _ = _; rw [hR, if_pos hz0]
                    clear hR hT hz hs1 own6 hownB
                    go_wp2
                    ((try simp only [Exit.inBlock, Exit.then]); refine bodyPost_ret (v := ?_) ?resultOf rfl ?_; case resultOf => (rw [results_cell_tmp rfl]; go_simp; rfl))
                    rw [Hr.out]
                    refine ⟨_, _, rfl, rfl, own_zero _ _, ?_⟩
                    (repeat (with_reducible (first | assumption | exact Below.refl _ _ | refine Below.setCell ?_ (by simp <;> omega) _ | refine Below.alloc ?_ (by simp <;> omega) _ | refine Below.drew ?_ | refine below_drewN ?_ _)))
              · skip
                go_wp2
                refine hK.out _ _ (ext_alloc _ _) ?_
                clear hK K
                try simp only [Act.put, List.setIfInBounds_toArray, List.set_cons_zero, List.set_cons_succ]
                obtain ⟨w5, hw5⟩ : ∃ w5, w5 = V.drew.alloc (.cells #[.int .i64 0, .int .i64 0, .int .i64 0, .slice none 0 0] 32) := ⟨_, rfl⟩
                first | rw [← hw5] | rw [show (V.alloc (.cells #[.int .i64 0, .int .i64 0, .int .i64 0, .slice none 0 0] 32)).drew = w5 by rw [hw5]; rfl]
                have he5 : Ext V.drew w5 := by rw [hw5]; exact ext_alloc _ _
                have b9 : Box w5 V.heap.size 32 #[.int .i64 0, .int .i64 0, .int .i64 0, .slice none 0 0] := by rw [hw5]; exact Box.new _ _ _ rfl
                have hd := ext_trans hd he5
                have hlt9 := b9.lt
                clear hw5
                refine mixS 14 (by kernel_rfl) (by kernel_rfl) (by rfl) (by rfl) (fun K hK => ?_)
                go_wp2_with (go_at_call 29; refine (number_w x3 x4 _ ⟨x30, x31⟩ ⟨x40, x41⟩).mono ?_; rintro e w1 ⟨rfl, rfl⟩)
                refine hK.out _ _ (Below.refl _ _) ?_
                clear hK K
                try simp only [Act.put, List.setIfInBounds_toArray, List.set_cons_zero, List.set_cons_succ]
                refine mixS 19 (by kernel_rfl) (by kernel_rfl) (by rfl) (by rfl) (fun K hK => ?_)
                go_wp2_with (go_at_call 111; refine (clone_w _ (Sl.below hcl (hd.mono (by omega))) (by have := hd.size; omega) (by rw [blim_def]; omega)).mono ?_; rintro e w1 ⟨v1, rfl, hown, he1⟩; obtain ⟨A1, c1, rfl, hs1⟩ := own_shape hown)
                refine hK.out _ _ (he1) ?_
                clear hK K
                try simp only [Act.put, List.setIfInBounds_toArray, List.set_cons_zero, List.set_cons_succ]
                have hownB := hown
                have hown := own_more (base' := V.heap.size) hown hd.size
                have hd := ext_trans hd he1
                have b9 := b9.ext he1
                apply mixF 20 (by kernel_rfl) (by rfl) (by rfl)
                · (intro w' hx; go_simp <;> with_reducible rfl)
                simp only [Act.put, List.setIfInBounds_toArray, List.set_cons_zero, List.set_cons_succ]
                have n0 := b9.cell 0 rfl
                have n1 := b9.cell 1 rfl
                have n2 := b9.cell 2 rfl
                have n3 := b9.cell 3 rfl
                have zn := b9.free
                refine mixLast 22 (by kernel_rfl) (by kernel_rfl) (by kernel_rfl) (by rfl) (by rfl) (fun K hK => ?_)
                have hK' := Lib.hid hK
                clear hK
                go_wp2
                refine hK'.out _ _ ?_
                clear hK' K n0 n1 n2 n3 zn
                refine NoPanic.normal ?_
                have hzG : V.heap.size ≤ V.heap.size := by first | exact hd1.size | exact Nat.le_refl _
                obtain ⟨w6, hw6⟩ : ∃ w6, w6 = (((w1.setCell ⟨V.heap.size, 0, none⟩ (.int .i64 x0)).setCell ⟨V.heap.size, 1, none⟩ (.int .i64 x2)).setCell ⟨V.heap.size, 2, none⟩ (.int .i64 (x3 * 256 + x4))).setCell ⟨V.heap.size, 3, none⟩ (.slice A1 u c1) := ⟨_, rfl⟩
                rw [← hw6]
                have b9 : Box w6 V.heap.size 32 #[.int .i64 x0, .int .i64 x2, .int .i64 (x3 * 256 + x4), .slice A1 u c1] := by
                  rw [hw6]
                  exact (((b9.set 0 _).set 1 _).set 2 _).set 3 _
                have hd6 : Below V.heap.size V w6 := by rw [hw6]; (repeat (with_reducible (first | assumption | exact Below.refl _ _ | refine Below.setCell ?_ (by simp <;> omega) _ | refine Below.alloc ?_ (by simp <;> omega) _ | refine Below.drew ?_ | refine below_drewN ?_ _)))
                have own6 : w6.ownsRow V.heap.size 5 1 (.slice A1 u c1) u (u8s ((l.drop 6).take u)) := by
                  rw [hw6]
                  exact own_more (own_set (own_set (own_set (own_set hownB hlt9 _) hlt9 _) hlt9 _) hlt9 _) (by omega)
                clear hw6 hd
                have bR6 := bR.below hd6 (by omega)
                clear bR r0 r1 r2 r3 z0
                have n0 := b9.cell 0 rfl
                have n1 := b9.cell 1 rfl
                have n2 := b9.cell 2 rfl
                have n3 := b9.cell 3 rfl
                go_wp2_with fail
                refine (wrong_w (r := ⟨x0, x2, x3 * 256 + x4, (l.drop 6).take u⟩) _ (Sl.of_own own6)).mono ?_
                rintro e w7 ⟨rfl, he7⟩
                obtain ⟨z, hz⟩ : ∃ z, z = rWrong ⟨x0, x2, x3 * 256 + x4, (l.drop 6).take u⟩ := ⟨_, rfl⟩
                rw [← hz]
                have hT : rTold l = ⟨x0, x2, x3 * 256 + x4, (l.drop 6).take u⟩ := by
                  unfold rTold sNum
                  rw [← X0.out, ← X2.out, ← X3.out, ← X4.out]
                  have e5 : (l.getD 5 0).toNat = u := by have := X5.out; omega
                  rw [e5]
                have hR : rRead l k = if rWrong (rTold l) ≠ 0 then (rZero, rWrong (rTold l)) else (rTold l, 0) := by
                  have e5 : (l.getD 5 0).toNat = u := by have := X5.out; omega
                  unfold rRead
                  rw [if_neg (by have := Hl.out; omega), if_neg (by rw [Hs.out]; simp), if_neg (by rw [← X1.out, hk]; simp), e5, if_neg (by omega), ha.out]
                  rfl
                rw [hT, ← hz] at hR
                have b9 := b9.ext he7
                have bR6 := bR6.ext he7
                have own7 := own_ext own6 he7
                have hd7 : Below w.heap.size w w7 := he.trans ((hd6.mono (by omega)).trans (he7.mono (by have := hd6.size; omega)))
                have n0 := b9.cell 0 rfl
                have n1 := b9.cell 1 rfl
                have n2 := b9.cell 2 rfl
                have n3 := b9.cell 3 rfl
                have r0 := bR6.cell 0 rfl
                have r1 := bR6.cell 1 rfl
                have r2 := bR6.cell 2 rfl
                have r3 := bR6.cell 3 rfl
                have zr := bR6.free
                by_cases hz0 : z = 0
                · subst hz0
                  have Hr : Hid (rRead l k = (⟨x0, x2, x3 * 256 + x4, (l.drop 6).take u⟩, 0)) := by rw [hR]; rfl
                  have Hlu : Hid (((l.drop 6).take u).length = u) := by
                    show _ = _
                    have := Hl.out
                    rw [List.length_take, List.length_drop]
                    omega
                  clear hR hT hz hs1 own6 hownB
                  go_wp2
                  ((try simp only [Exit.inBlock, Exit.then]); refine bodyPost_ret (v := ?_) ?resultOf rfl ?_; case resultOf => (rw [results_cell_tmp rfl]; go_simp; rfl))
                  rw [Hr.out]
                  refine ⟨_, _, rfl, rfl, ⟨A1, c1, ?_, ?_⟩, ?_⟩
                  · rw [Hlu.out]
                  · rw [Hlu.out]
                    refine own_more (base := V.heap.size) ?_ (by omega)
                    (repeat (with_reducible (first | assumption | refine own_set ?_ (by simp <;> omega) _ | refine own_alloc ?_ _)))
                  · (repeat (with_reducible (first | assumption | exact Below.refl _ _ | refine Below.setCell ?_ (by simp <;> omega) _ | refine Below.alloc ?_ (by simp <;> omega) _ | refine Below.drew ?_ | refine below_drewN ?_ _)))
                · have qz : (z != 0) = true := by simpa using hz0
                  have Hr : Hid (rRead l k = (rZero, z)) := by show _ = _; rw [hR, if_pos hz0]
                  clear hR hT hz hs1 own6 hownB
                  go_wp2
                  ((try simp only [Exit.inBlock, Exit.then]); refine bodyPost_ret (v := ?_) ?resultOf rfl ?_; case resultOf => (rw [results_cell_tmp rfl]; go_simp; rfl))
                  rw [Hr.out]
                  refine ⟨_, _, rfl, rfl, own_zero _ _, ?_⟩
                  (repeat (with_reducible (first | assumption | exact Below.refl _ _ | refine Below.setCell ?_ (by simp <;> omega) _ | refine Below.alloc ?_ (by simp <;> omega) _ | refine Below.drew ?_ | refine below_drewN ?_ _)))
        · have Hr := Lib.hid (show rRead l k = (rZero, 4) by unfold rRead; rw [if_neg (by have := Hl.out; omega), if_neg (by rw [Hs.out]; simp), if_neg (by rw [← X1.out, hk]; simp), if_pos (by have := X5.out; omega)])
          have q2 : decide ((8 : Int) < (u : Int)) = true := by simp; omega
          go_wp2
          ((try simp only [Exit.inBlock, Exit.then]); refine bodyPost_ret (v := ?_) ?resultOf rfl ?_; case resultOf => (rw [results_cell_tmp rfl]; go_simp; rfl))
          rw [Hr.out]
          refine ⟨_, _, rfl, rfl, own_zero _ _, ?_⟩
          (repeat (with_reducible (first | assumption | exact Below.refl _ _ | refine Below.setCell ?_ (by simp <;> omega) _ | refine Below.alloc ?_ (by simp <;> omega) _ | refine Below.drew ?_ | refine below_drewN ?_ _)))
      · have Hr := Lib.hid (show rRead l k = (rZero, 8) by unfold rRead; rw [if_neg (by have := Hl.out; omega), if_neg (by rw [Hs.out]; simp), if_pos (by rw [← X1.out]; exact hk)])
        have q1 : (x1 != k) = true := by simpa using hk
        go_wp2
        ((try simp only [Exit.inBlock, Exit.then]); refine bodyPost_ret (v := ?_) ?resultOf rfl ?_; case resultOf => (rw [results_cell_tmp rfl]; go_simp; rfl))
        rw [Hr.out]
        refine ⟨_, _, rfl, rfl, own_zero _ _, ?_⟩
        (repeat (with_reducible (first | assumption | exact Below.refl _ _ | refine Below.setCell ?_ (by simp <;> omega) _ | refine Below.alloc ?_ (by simp <;> omega) _ | refine Below.drew ?_ | refine below_drewN ?_ _)))
  · have q1 : ((n : Int) != 16) = true := by rw [bne_iff_ne]; omega
    have Hr := Lib.hid (show rRead l k = (rZero, 2) by unfold rRead; rw [if_pos (by omega)])
    go_enter Try.func42, Try.ntmps42
    go_wp2
    ((try simp only [Exit.inBlock, Exit.then]); refine bodyPost_ret (v := ?_) ?resultOf rfl ?_; case resultOf => (rw [results_cell_tmp rfl]; go_simp; rfl))
    rw [Hr.out]
    refine ⟨_, _, rfl, rfl, own_zero _ _, ?_⟩
    (repeat (with_reducible (first | assumption | exact Below.refl _ _ | refine Below.setCell ?_ (by simp <;> omega) _ | refine Below.alloc ?_ (by simp <;> omega) _ | refine Below.drew ?_ | refine below_drewN ?_ _)))

end Go.Proofs.Ytnganglmpcbcbaa
