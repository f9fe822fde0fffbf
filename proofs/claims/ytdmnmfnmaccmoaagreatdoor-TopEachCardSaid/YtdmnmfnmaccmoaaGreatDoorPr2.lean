/- Walks: pair.Put. -/
import Derived.Test.YtdmnmfnmaccmoaaGreatDoorG3
import Derived.Test.YtdmnmfnmaccmoaaGreatDoorG4
import Derived.Test.YtdmnmfnmaccmoaaGreatDoorMixU
namespace Go.Proofs.YtdmnmfnmaccmoaaGreatDoor
open Go Go.RowKit
section
variable {w : World} {base : Nat} {v : Value} {r : Rec} {k : Int}
theorem recBytes_v (h : RecV w base v r) (hw : rWrong r = 0) : Calls Tryz.prog 51 #[v, .int .i64 k] w fun e w' => ∃ v', e = .returned v' ∧ ByT w' 0 v' (rBytes r k) ∧ Ext w w' := by
 obtain ⟨A, n, c, rfl, h1, _⟩ := h.at_
 have hz := rWrong_zero' hw
 exact (bytes_w w h1 (Nat.le_refl _) (by have := h1.len; omega) hz.2.2.2.1 (by omega)).mono fun e w' ⟨v', e, h, he⟩ => ⟨v', e, ByT.of_own h, he⟩
theorem recWrong_v (h : RecV w base v r) : Calls Tryz.prog 69 #[v] w fun e w' => e = .returned (.int .i64 (rWrong r)) ∧ Ext w w' := by
 obtain ⟨A, n, c, rfl, h1, _⟩ := h.at_
 exact wrong_w w h1
end
def putTo (d : Dsk) (p : Int) (r : Rec) : Nat → Dsk
 | 0 => d
 | 1 => ⟨d.blocks, d.late ++ [(2 * p, rBytes r (2 * p))]⟩
 | _ => ⟨d.blocks, d.late ++ [(2 * p, rBytes r (2 * p)), (2 * p + 1, rBytes r (2 * p + 1))]⟩
theorem pPut_out {d : Dsk} {p : Int} {r : Rec} (h : ¬ pIn d p) : pPut d p r = (d, 3) := by unfold pPut; rw [if_pos h]
theorem pPut_wrong {d : Dsk} {p : Int} {r : Rec} (h : pIn d p) (h' : rWrong r ≠ 0) : pPut d p r = (d, rWrong r) := by unfold pPut; rw [if_neg (fun k => k h), if_pos h']
theorem pPut_ok {d : Dsk} {p : Int} {r : Rec} (h : pIn d p) (h' : rWrong r = 0) : pPut d p r = (putTo d p r 2, 0) := by unfold pPut; rw [if_neg (fun k => k h), if_neg (fun k => k h')]; rfl
theorem putTo_step {d : Dsk} {p : Int} {r : Rec} (h : pIn d p) (h' : rWrong r = 0) {a : Nat} (ha : a < 2) : dPut (putTo d p r a) (2 * p + (a : Int)) (rBytes r (2 * p + (a : Int))) = (putTo d p r (a + 1), 0) := by
 have hb := pIn_blocks h
 rcases (show a = 0 ∨ a = 1 by omega) with rfl | rfl
 ·unfold dPut putTo
  rw [if_neg (by simp only; omega), if_neg (by rw [rBytes_length (rWrong_zero' h').1]; omega)]
  simp
 ·unfold dPut putTo
  rw [if_neg (by simp only; omega), if_neg (by rw [rBytes_length (rWrong_zero' h').1]; omega)]
  simp
theorem putTo_ok {d : Dsk} {p : Int} {r : Rec} (hk : DskOk d) (hk4 : d.late.length ≤ 4000) (h' : rWrong r = 0) : ∀ a, DskOk (putTo d p r a)
 | 0 => hk
 | 1 => ⟨hk.blocks, by show (d.late ++ _).length ≤ _; simp; omega, hk.block, fun i => by
   show ((d.late ++ [(2 * p, rBytes r (2 * p))]).getD i (0, [])).2.length ≤ 4096
   rw [List.getD_eq_getElem?_getD, List.getElem?_append]
   split
   ·have := hk.write i; rwa [List.getD_eq_getElem?_getD] at this
   ·rcases (show i - d.late.length = 0 ∨ 1 ≤ i - d.late.length by omega) with e | e
    ·rw [e]; simp [rBytes_length (rWrong_zero' h').1]
    ·rw [List.getElem?_eq_none (by simpa using e)]; simp⟩
 | (a + 2) => ⟨hk.blocks, by show (d.late ++ _).length ≤ _; simp; omega, hk.block, fun i => by
   show ((d.late ++ [(2 * p, rBytes r (2 * p)), (2 * p + 1, rBytes r (2 * p + 1))]).getD i (0, [])).2.length ≤ 4096
   rw [List.getD_eq_getElem?_getD, List.getElem?_append]
   split
   ·have := hk.write i; rwa [List.getD_eq_getElem?_getD] at this
   ·rcases (show i - d.late.length = 0 ∨ i - d.late.length = 1 ∨ 2 ≤ i - d.late.length by omega) with e | e | e
    ·rw [e]; simp [rBytes_length (rWrong_zero' h').1]
    ·rw [e]; simp [rBytes_length (rWrong_zero' h').1]
    ·rw [List.getElem?_eq_none (by simpa using e)]; simp⟩
set_option maxRecDepth 100000 in
set_option maxHeartbeats 4000000 in
theorem pPut_v {T : List TypeId} {base base' : Nat} {v rv : Value} {d : Dsk} {r : Rec} {p : Int} {w : World} (h : DskV T w base v d) (hk : DskOk d) (hk4 : d.late.length ≤ 4000) (hr : RecV w base' rv r) :
  Calls Tryz.prog 40 #[v, .int .i64 p, rv] w fun e w' => ∃ v' q, e = .returned (.tuple #[v', .int .i64 q]) ∧ Hid (q = (pPut d p r).2) ∧ DskV tD w' 0 v' (pPut d p r).1 ∧ Ext w w' := by
 have h := h.all (T' := tD)
 have hr := hr.all
 obtain ⟨A, n, c, E, m, e, rfl, HN, HM, hb, hl, hnc, hme⟩ := h.form
 obtain ⟨A2, n2, c2, rfl, hy, hyt⟩ := hr.at_
 clear hy
 have hn4 : n ≤ 4096 := by have := hk.blocks; have := HN.out; omega
 go_enter Tryz.func40, Tryz.ntmps40
 go_upto_region 1 with (fail)
 generalize hwn : World.alloc (World.alloc (World.alloc w _) _) _ = W
 have hx : Ext w W := by rw [← hwn]; (repeat (with_reducible (first | assumption | exact Below.refl _ _ | refine Below.setCell ?_ (by simp <;> omega) _ | refine Below.alloc ?_ (by simp <;> omega) _ | refine Below.drew ?_ | refine below_drewN ?_ _)))
 have b3 : Box W w.heap.size 27 #[.slice A n c, .slice E m e] := by rw [← hwn]; exact ((Box.new _ _ _ rfl).alloc _).alloc _
 have b5 : Box W (w.heap.size + 1) 54 #[.int .i64 r.kind, .int .i64 r.key, .int .i64 r.ver, .slice A2 n2 c2] := by rw [← hwn]; exact (Box.new _ _ _ (by simp)).alloc _
 have b6 : Box W (w.heap.size + 1 + 1) 27 #[.slice none 0 0, .slice none 0 0] := by rw [← hwn]; exact Box.new _ _ _ (by simp)
 clear hwn
 obtain ⟨g3, hg3⟩ : ∃ g, g = w.heap.size := ⟨_, rfl⟩
 obtain ⟨g5, hg5⟩ : ∃ g, g = w.heap.size + 1 := ⟨_, rfl⟩
 obtain ⟨g6, hg6⟩ : ∃ g, g = w.heap.size + 1 + 1 := ⟨_, rfl⟩
 have l3 : w.heap.size ≤ g3 := by omega
 have l5 : g3 < g5 := by omega
 have l6 : g5 < g6 := by omega
 rw [← hg6] at b6 ⊢
 rw [← hg5] at b5 ⊢
 rw [show Box W w.heap.size 27 #[.slice A n c, .slice E m e] ↔ Box W g3 27 #[.slice A n c, .slice E m e] by rw [hg3]] at b3
 rw [← hg3]
 clear hg3 hg5 hg6
 by_cases hp : 0 ≤ p ∧ p < (n : Int) / 2
 ·have PI : Hid (pIn d p) := Lib.hid (by unfold pIn; rw [← HN.out]; exact hp)
  obtain ⟨h0, h1⟩ := hp
  have q0 : decide (p < 0) = false := by rw [decide_eq_false_iff_not]; omega
  have q1 : decide ((n : Int) / 2 ≤ p) = false := by rw [decide_eq_false_iff_not]; omega
  have h := h.ext hx
  have hr := hr.ext hx
  have hyt := hyt.ext hx
  obtain ⟨b3_0, b3_1⟩ := b3.c2
  have b3_z := b3.free
  have b3_l := b3.lt
  obtain ⟨b5_0, b5_1, b5_2, b5_3⟩ := b5.c4
  have b5_z := b5.free
  have b5_l := b5.lt
  go_wp2_with fail
  refine (recWrong_v hr).mono ?_
  rintro e1 w1 ⟨rfl, he⟩
  try clear b3_0 b3_1 b3_z b3_l b5_0 b5_1 b5_2 b5_3 b5_z b5_l
  have hx := ext_trans hx he
  have h := h.ext he
  have hr := hr.ext he
  have hyt := hyt.ext he
  have b3 := b3.ext he
  have b5 := b5.ext he
  have b6 := b6.ext he
  clear he
  by_cases hw : rWrong r = 0
  ·have q2 : (rWrong r != 0) = false := by simpa using hw
   have HW := Lib.hid hw
   clear hw
   go_wp2_with fail
   clear q2
   go_loopw [29] (fun i wr => ∃ a : Nat, a ≤ 2 ∧ i = .int .i64 a ∧ Ext w wr ∧ (∃ A n c E m e B, Box wr g3 27 #[.slice A n c, .slice E m e] ∧ DskV tD wr B (.agg #[.slice A n c, .slice E m e]) (putTo d p r a) ∧ (0 < a → B = 0)) ∧
    Box wr g5 54 #[.int .i64 r.kind, .int .i64 r.key, .int .i64 r.ver, .slice A2 n2 c2] ∧ Box wr g6 27 #[.slice none 0 0, .slice none 0 0] ∧ RecV wr w.heap.size (.agg #[.int .i64 r.kind, .int .i64 r.key, .int .i64 r.ver, .slice A2 n2 c2]) r) (fun i _ => 2 - (intOf i).toNat)
   case atStart => exact ⟨0, by omega, rfl, hx, ⟨A, n, c, E, m, e, w.heap.size, b3, h, fun h => absurd h (by omega)⟩, b5, b6, hr⟩
   case round =>
    clear hx h hr hyt b3 b5 b6 hb hl q0 q1 HM HN
    obtain ⟨a, ha, rfl, hx, ⟨A, n', c, E, m, e, B, b3, h, hB⟩, b5, b6, hr⟩ := hrel
    by_cases hlt : a < 2
    ·have e0 : decide ((a : Int) < 2) = true := by rw [decide_eq_true_eq]; omega
     go_upto_region 9 with (fail)
     have hx := hx.drew
     have b3 := b3.drew
     have b5 := b5.drew
     have b6 := b6.drew
     have h := h.ext ((Below.refl _ _).drew)
     have hr := hr.ext ((Below.refl _ _).drew)
     refine wp_region_ue 16 [14] [0, 1, 2, 3, 4, 5, 6, 7, 8, 9, 12, 13, 14] rfl (by kernel_rfl) (by kernel_rfl) ?_
     generalize wr.drew = D at hx b3 b5 b6 h hr ⊢
     apply uF 0 (by kernel_rfl) (by rfl) (by rfl) (by rfl)
     ·(intro w' hx; obtain ⟨x0, x1⟩ := (b3.ext hx).c2; obtain ⟨y0, y1, y2, y3⟩ := (b5.ext hx).c4; go_simp <;> with_reducible rfl)
     simp only [pA, pB, pC, pD]
     apply uF 1 (by kernel_rfl) (by rfl) (by rfl) (by rfl)
     ·(intro w' hx; obtain ⟨x0, x1⟩ := (b3.ext hx).c2; obtain ⟨y0, y1, y2, y3⟩ := (b5.ext hx).c4; go_simp <;> with_reducible rfl)
     simp only [pA, pB, pC, pD]
     apply uF 2 (by kernel_rfl) (by rfl) (by rfl) (by rfl)
     ·(intro w' hx; obtain ⟨x0, x1⟩ := (b3.ext hx).c2; obtain ⟨y0, y1, y2, y3⟩ := (b5.ext hx).c4; go_simp <;> with_reducible rfl)
     simp only [pA, pB, pC, pD]
     apply uF 3 (by kernel_rfl) (by rfl) (by rfl) (by rfl)
     ·(intro w' hx; obtain ⟨x0, x1⟩ := (b3.ext hx).c2; obtain ⟨y0, y1, y2, y3⟩ := (b5.ext hx).c4; go_simp <;> with_reducible rfl)
     simp only [pA, pB, pC, pD]
     apply uF 4 (by kernel_rfl) (by rfl) (by rfl) (by rfl)
     ·(intro w' hx; obtain ⟨x0, x1⟩ := (b3.ext hx).c2; obtain ⟨y0, y1, y2, y3⟩ := (b5.ext hx).c4; go_simp <;> with_reducible rfl)
     simp only [pA, pB, pC, pD]
     apply uF 5 (by kernel_rfl) (by rfl) (by rfl) (by rfl)
     ·(intro w' hx; obtain ⟨x0, x1⟩ := (b3.ext hx).c2; obtain ⟨y0, y1, y2, y3⟩ := (b5.ext hx).c4; go_simp <;> with_reducible rfl)
     simp only [pA, pB, pC, pD]
     apply uF 6 (by kernel_rfl) (by rfl) (by rfl) (by rfl)
     ·(intro w' hx; obtain ⟨x0, x1⟩ := (b3.ext hx).c2; obtain ⟨y0, y1, y2, y3⟩ := (b5.ext hx).c4; go_simp <;> with_reducible rfl)
     simp only [pA, pB, pC, pD]
     apply uF 7 (by kernel_rfl) (by rfl) (by rfl) (by rfl)
     ·(intro w' hx; obtain ⟨x0, x1⟩ := (b3.ext hx).c2; obtain ⟨y0, y1, y2, y3⟩ := (b5.ext hx).c4; go_simp <;> with_reducible rfl)
     simp only [pA, pB, pC, pD]
     apply uF 8 (by kernel_rfl) (by rfl) (by rfl) (by rfl)
     ·(intro w' hx; obtain ⟨x0, x1⟩ := (b3.ext hx).c2; obtain ⟨y0, y1, y2, y3⟩ := (b5.ext hx).c4; go_simp <;> with_reducible rfl)
     simp only [pA, pB, pC, pD]
     apply uF 9 (by kernel_rfl) (by rfl) (by rfl) (by rfl)
     ·(intro w' hx; obtain ⟨x0, x1⟩ := (b3.ext hx).c2; obtain ⟨y0, y1, y2, y3⟩ := (b5.ext hx).c4; go_simp <;> with_reducible rfl)
     simp only [pA, pB, pC, pD]
     refine uS 10 (by kernel_rfl) (by kernel_rfl) (by rfl) (by rfl) (fun K hK => ?_)
     go_wp2_with (go_at_call 51; refine (recBytes_v hr HW.out).mono ?_; rintro e w4 ⟨v4, rfl, hv4, he⟩)
     refine hK.out _ _ (he) ?_
     clear hK K
     try simp only [pA, pB, pC, pD]
     have hx := ext_trans hx he
     have h := h.ext he
     have hr := hr.ext he
     have b3 := b3.ext he
     have b5 := b5.ext he
     have b6 := b6.ext he
     clear he
     refine uS 11 (by kernel_rfl) (by kernel_rfl) (by rfl) (by rfl) (fun K hK => ?_)
     go_wp2_with (go_at_call 70; refine (dskPut_v h (putTo_ok hk hk4 HW.out a) hv4).mono ?_; rintro e w5 ⟨v5, q5, rfl, hq5, o5, he⟩)
     refine hK.out _ _ (he) ?_
     clear hK K
     try simp only [pA, pB, pC, pD]
     have hx := ext_trans hx he
     have b3 := b3.ext he
     have b5 := b5.ext he
     have b6 := b6.ext he
     have hr := hr.ext he
     rw [putTo_step PI.out HW.out hlt] at o5
     have o5 := o5.v
     clear he h hv4 hq5
     obtain ⟨A5, n5, c5, E5, m5, f5, rfl, HN5, HM5, _, _, _, _⟩ := o5.form
     apply uF 12 (by kernel_rfl) (by rfl) (by rfl) (by rfl)
     ·(intro w' hx; go_simp <;> with_reducible rfl)
     simp only [pA, pB, pC, pD]
     apply uF 13 (by kernel_rfl) (by rfl) (by rfl) (by rfl)
     ·(intro w' hx; go_simp <;> with_reducible rfl)
     simp only [pA, pB, pC, pD]
     apply uU 14 (by kernel_rfl) (by rfl) (by rfl)
     ·(intro w'; go_simp <;> with_reducible rfl)
     simp only [pA, pB, pC, pD]
     refine uL 15 (by kernel_rfl) (by kernel_rfl) (by kernel_rfl) (by rfl) (by rfl) (fun K hK => ?_)
     have hK' := Lib.hid hK
     clear hK
     have k3 := b3.kd
     obtain ⟨b3_0, b3_1⟩ := b3.c2
     have b3_z := b3.free
     have b3_l := b3.lt
     go_wp2
     refine hK'.out _ _ ?_
     clear hK' K
     refine uEnd (by kernel_rfl) ?_
     go_wp2_with fail
     refine ⟨⟨a + 1, by omega, rfl, ?_, ⟨A5, n5, c5, E5, m5, f5, 0, ?_, ?_, fun _ => rfl⟩, ?_, ?_, ?_⟩, ?_⟩
     ·(repeat (with_reducible (first | assumption | exact Below.refl _ _ | refine Below.setCell ?_ (by simp <;> omega) _ | refine Below.alloc ?_ (by simp <;> omega) _ | refine Below.drew ?_ | refine below_drewN ?_ _)))
     ·exact (b3.set 0 _).set 1 _
     ·exact o5.kept (by (repeat (with_reducible (first | assumption | exact Kept.refl _ _ _ | (apply Kept.setK; rotate_left; (repeat (first | assumption | apply Kd.set | apply Kd.alloc | apply Kd.drew)); decide; omega) | refine Kept.allocK ?_ _ | refine Kept.drewK ?_))))
     ·(repeat (with_reducible (first | assumption | refine Box.alloc ?_ _ | refine Box.setOther ?_ (by simp <;> omega) _)))
     ·(repeat (with_reducible (first | assumption | refine Box.alloc ?_ _ | refine Box.setOther ?_ (by simp <;> omega) _)))
     ·exact hr.kept (T := []) (by (repeat (with_reducible (first | assumption | exact Kept.refl _ _ _ | (apply Kept.setK; rotate_left; (repeat (first | assumption | apply Kd.set | apply Kd.alloc | apply Kd.drew)); decide; omega) | refine Kept.allocK ?_ _ | refine Kept.drewK ?_))))
     ·simp only [intOf]; omega
    ·obtain rfl : a = 2 := by omega
     have hB := hB (by omega)
     subst hB
     have k6 := b6.kd
     obtain ⟨b3_0, b3_1⟩ := b3.c2
     have b3_z := b3.free
     have b3_l := b3.lt
     obtain ⟨b6_0, b6_1⟩ := b6.c2
     have b6_z := b6.free
     have b6_l := b6.lt
     go_wp2_with fail
     ((try simp only [Exit.inBlock, Exit.then]); refine bodyPost_ret (v := ?_) ?resultOf rfl ?_; case resultOf => (rw [results_cell_tmp rfl]; go_simp; rfl))
     refine ⟨_, _, rfl, ?_, ?_, ?_⟩
     ·rw [pPut_ok PI.out HW.out]; rfl
     ·rw [pPut_ok PI.out HW.out]
      exact h.kept (by (repeat (with_reducible (first | assumption | exact Kept.refl _ _ _ | (apply Kept.setK; rotate_left; (repeat (first | assumption | apply Kd.set | apply Kd.alloc | apply Kd.drew)); decide; omega) | refine Kept.allocK ?_ _ | refine Kept.drewK ?_))))
     ·(repeat (with_reducible (first | assumption | exact Below.refl _ _ | refine Below.setCell ?_ (by simp <;> omega) _ | refine Below.alloc ?_ (by simp <;> omega) _ | refine Below.drew ?_ | refine below_drewN ?_ _)))
  ·have q2 : (rWrong r != 0) = true := by simpa using hw
   have HP := Lib.hid (pPut_wrong PI.out hw)
   clear hw
   obtain ⟨b3_0, b3_1⟩ := b3.c2
   have b3_z := b3.free
   have b3_l := b3.lt
   go_wp2_with fail
   refine (dskOwn_v h hk).mono ?_
   rintro e3 w3 ⟨v3, rfl, o3, he⟩
   try clear b3_0 b3_1 b3_z b3_l b3_0 b3_1 b3_z b3_l b6_0 b6_1 b6_z b6_l b3_0 b3_1 b3_z b3_l
   have hx := ext_trans hx he
   have b6 := b6.ext he
   clear he
   have o3 := o3.v
   obtain ⟨A3, n3, c3, E3, m3, e3, rfl, HN3, HM3, _, _, _, _⟩ := o3.form
   have k6 := b6.kd
   obtain ⟨b6_0, b6_1⟩ := b6.c2
   have b6_z := b6.free
   have b6_l := b6.lt
   go_wp2_with fail
   ((try simp only [Exit.inBlock, Exit.then]); refine bodyPost_ret (v := ?_) ?resultOf rfl ?_; case resultOf => (rw [results_cell_tmp rfl]; go_simp; rfl))
   refine ⟨_, _, rfl, ?_, ?_, ?_⟩
   ·rw [HP.out]; rfl
   ·rw [HP.out]
    exact o3.kept (by (repeat (with_reducible (first | assumption | exact Kept.refl _ _ _ | (apply Kept.setK; rotate_left; (repeat (first | assumption | apply Kd.set | apply Kd.alloc | apply Kd.drew)); decide; omega) | refine Kept.allocK ?_ _ | refine Kept.drewK ?_))))
   ·(repeat (with_reducible (first | assumption | exact Below.refl _ _ | refine Below.setCell ?_ (by simp <;> omega) _ | refine Below.alloc ?_ (by simp <;> omega) _ | refine Below.drew ?_ | refine below_drewN ?_ _)))
 ·have HP := Lib.hid (pPut_out (d := d) (p := p) (r := r) (by unfold pIn; rw [← HN.out]; exact hp))
  have h := h.ext hx
  by_cases h0 : p < 0
  ·have q0 : decide (p < 0) = true := by simpa using h0
   obtain ⟨b3_0, b3_1⟩ := b3.c2
   have b3_z := b3.free
   have b3_l := b3.lt
   go_wp2_with fail
   refine (dskOwn_v h hk).mono ?_
   rintro e3 w3 ⟨v3, rfl, o3, he⟩
   try clear b6_0 b6_1 b6_z b6_l b3_0 b3_1 b3_z b3_l
   have hx := ext_trans hx he
   have b6 := b6.ext he
   clear he
   have o3 := o3.v
   obtain ⟨A3, n3, c3, E3, m3, e3, rfl, HN3, HM3, _, _, _, _⟩ := o3.form
   have k6 := b6.kd
   obtain ⟨b6_0, b6_1⟩ := b6.c2
   have b6_z := b6.free
   have b6_l := b6.lt
   go_wp2_with fail
   ((try simp only [Exit.inBlock, Exit.then]); refine bodyPost_ret (v := ?_) ?resultOf rfl ?_; case resultOf => (rw [results_cell_tmp rfl]; go_simp; rfl))
   refine ⟨_, _, rfl, ?_, ?_, ?_⟩
   ·rw [HP.out]; rfl
   ·rw [HP.out]
    exact o3.kept (by (repeat (with_reducible (first | assumption | exact Kept.refl _ _ _ | (apply Kept.setK; rotate_left; (repeat (first | assumption | apply Kd.set | apply Kd.alloc | apply Kd.drew)); decide; omega) | refine Kept.allocK ?_ _ | refine Kept.drewK ?_))))
   ·(repeat (with_reducible (first | assumption | exact Below.refl _ _ | refine Below.setCell ?_ (by simp <;> omega) _ | refine Below.alloc ?_ (by simp <;> omega) _ | refine Below.drew ?_ | refine below_drewN ?_ _)))
  ·have q0 : decide (p < 0) = false := by simpa using h0
   have q1 : decide ((n : Int) / 2 ≤ p) = true := by rw [decide_eq_true_eq]; omega
   obtain ⟨b3_0, b3_1⟩ := b3.c2
   have b3_z := b3.free
   have b3_l := b3.lt
   go_wp2_with fail
   refine (dskOwn_v h hk).mono ?_
   rintro e3 w3 ⟨v3, rfl, o3, he⟩
   try clear b6_0 b6_1 b6_z b6_l b3_0 b3_1 b3_z b3_l
   have hx := ext_trans hx he
   have b6 := b6.ext he
   clear he
   have o3 := o3.v
   obtain ⟨A3, n3, c3, E3, m3, e3, rfl, HN3, HM3, _, _, _, _⟩ := o3.form
   have k6 := b6.kd
   obtain ⟨b6_0, b6_1⟩ := b6.c2
   have b6_z := b6.free
   have b6_l := b6.lt
   go_wp2_with fail
   ((try simp only [Exit.inBlock, Exit.then]); refine bodyPost_ret (v := ?_) ?resultOf rfl ?_; case resultOf => (rw [results_cell_tmp rfl]; go_simp; rfl))
   refine ⟨_, _, rfl, ?_, ?_, ?_⟩
   ·rw [HP.out]; rfl
   ·rw [HP.out]
    exact o3.kept (by (repeat (with_reducible (first | assumption | exact Kept.refl _ _ _ | (apply Kept.setK; rotate_left; (repeat (first | assumption | apply Kd.set | apply Kd.alloc | apply Kd.drew)); decide; omega) | refine Kept.allocK ?_ _ | refine Kept.drewK ?_))))
   ·(repeat (with_reducible (first | assumption | exact Below.refl _ _ | refine Below.setCell ?_ (by simp <;> omega) _ | refine Below.alloc ?_ (by simp <;> omega) _ | refine Below.drew ?_ | refine below_drewN ?_ _)))
end Go.Proofs.YtdmnmfnmaccmoaaGreatDoor
