/- Walks: slices.Contains of numbers, fsck.Clean. -/
import Derived.Test.YtdmnmfnmaccmoaaGreatDoorFsA
namespace Go.Proofs.YtdmnmfnmaccmoaaGreatDoor
open Go Go.RowKit
section
variable {P : Program} {Q : Exit → Act → World → Prop}
theorem wp_region_uk (B : Nat) (gs : List Nat) {id : Nat} {a : Act} {w : World} {l : List Oper} (n : Nat) (Us Fs : List Nat) (hn : l.length = n) (hm : P.follows .mixedOrders = true) (hs : Region.noSelect l.toArray = true)
  (h : wpTreeU P .any l.toArray (NoPanic Q) (XK B gs) Us Fs n (Array.replicate n false) a w.drew) : (Code.region id l.toArray true).wp P Q a w :=
 wp_region_u _ (XK.refl B gs) (fun _ _ _ h k => h.trans k) n Us Fs hn hm hs h
end
theorem results_cct {fn : Func} {p u r : Tmp} {ty ty' : TypeId} (h : fn.results = #[.cell p ty, .cell u ty', .tmp r]) (tmps : Array Value) (P : Program) (w : World) :
  (results fn tmps).run P w = ((asAddr (tmps.getD p undef)).run P w).andThen fun a w₁ => ((loadVar ty a).run P w₁).andThen fun x w₂ => ((asAddr (tmps.getD u undef)).run P w₂).andThen fun b w₃ => ((loadVar ty' b).run P w₃).andThen fun y w₄ => .ok (.tuple #[x, y, tmps.getD r undef]) w₄ := by
 simp only [results, h]
 simp [Sem.run_bind, Result.andThen]
set_option maxRecDepth 100000 in
set_option maxHeartbeats 4000000 in
theorem intIndex_v {T : List TypeId} {base : Nat} {u : Value} {l : List Int} {x : Int} {w : World} (h : Row eInt T w base u l) :
  Calls Tryz.prog 77 #[u, .int .i64 x] w fun e w' => ∃ z, e = .returned (.int .i64 z) ∧ Hid (decide (0 ≤ z) = l.contains x) ∧ Ext w w' := by
 obtain ⟨A, n, c, rfl, hc, hcm, HN⟩ := h.form
 unfold maxLen at hcm
 go_enter Tryz.func77, Tryz.ntmps77
 go_wp2_with fail
 go_loopw [8] (fun i wr => ∃ a : Nat, a ≤ n ∧ i = .int .i64 a ∧ Hid (∀ j, j < a → l.getD j 0 ≠ x) ∧ Ext w wr) (fun i _ => n - (intOf i).toNat)
 case atStart => exact ⟨0, by omega, rfl, fun j hj => (by omega), Below.refl _ _⟩
 case round =>
  obtain ⟨a, ha, rfl, HJ, hx⟩ := hrel
  by_cases hlt : a < n
  ·have i0 : (0 : Int) ≤ (a : Int) := by omega
   have i1 : (a : Int) < (n : Int) := by omega
   obtain ⟨b, o, rfl, _, c0⟩ := (h.ext hx).int_at hlt
   have hal : a < l.length := HN.out ▸ hlt
   have HC := Lib.hid (fun (e : l.getD a 0 = x) => show x ∈ l by
    rw [← e, List.getD_eq_getElem?_getD, List.getElem?_eq_getElem hal]
    exact List.getElem_mem hal)
   have HJ2 := Lib.hid (fun (h0 : l.getD a 0 ≠ x) j (hj : j < a + 1) => if hij : j = a then (by rw [hij]; exact h0 : l.getD j 0 ≠ x) else HJ.out j (by omega))
   generalize l.getD a 0 = y at c0 HC HJ2
   by_cases k1 : x = y
   ·have q1 : (x == y) = true := by simpa using k1
    have HM := HC.out k1.symm
    clear k1 HC HJ2
    go_wp2_with fail
    go_ret
    exact ⟨_, rfl, by rw [Hid, decide_eq_true i0]; exact (List.contains_iff_mem.2 HM).symm, hx⟩
   ·have q1 : (x == y) = false := by simpa using k1
    have HJ3 := Lib.hid (HJ2.out (fun e => k1 e.symm))
    clear k1 HC HJ2
    go_wp2_with fail
    refine ⟨⟨a + 1, by omega, rfl, HJ3.out, hx⟩, ?_⟩
    simp only [intOf]
    omega
  ·obtain rfl : a = n := by omega
   go_wp2_with fail
   go_ret
   refine ⟨_, rfl, ?_, hx⟩
   show decide ((0 : Int) ≤ -1) = _
   rw [decide_eq_false (by omega)]
   symm
   rw [← Bool.not_eq_true, List.contains_iff_mem]
   intro hm
   obtain ⟨j, hj, e⟩ := List.getElem_of_mem hm
   refine HJ.out j (by rw [HN.out]; exact hj) ?_
   rw [List.getD_eq_getElem?_getD, List.getElem?_eq_getElem hj]
   exact e
set_option maxRecDepth 100000 in
set_option maxHeartbeats 4000000 in
theorem intHas_v {T : List TypeId} {base : Nat} {u : Value} {l : List Int} {x : Int} {w : World} (h : Row eInt T w base u l) :
  Calls Tryz.prog 49 #[u, .int .i64 x] w fun e w' => e = .returned (.bool (l.contains x)) ∧ Ext w w' := by
 go_enter Tryz.func49, Tryz.ntmps49
 go_wp2_with fail
 refine (intIndex_v (x := x) h).mono ?_
 rintro e1 w1 ⟨z, rfl, HZ, he⟩
 by_cases hz : 0 ≤ z
 ·have q : decide (0 ≤ z) = true := by simpa using hz
  go_wp2_with fail
  go_ret
  exact ⟨by rw [← HZ.out, decide_eq_true hz]; rfl, he⟩
 ·have HZ2 := Lib.hid (show false = l.contains x by rw [← HZ.out, decide_eq_false hz])
  have q : decide (0 ≤ z) = false := by simpa using hz
  go_wp2_with fail
  go_ret
  exact ⟨by rw [← HZ2.out]; rfl, he⟩
theorem clTo_fine {x : Dsk} (hx : Fine x 0) (tw : List Int) : ∀ a : Nat, a ≤ 6 → Fine (clTo x tw a).1 (4 * a)
 | 0, _ => hx
 | a + 1, h => by
  have h0 := clTo_fine hx tw a (by omega)
  show Fine (if _ then _ else _) _
  split
  ·exact ((h0.mend (by omega) a).put (by omega) a rFree).le (by omega)
  ·exact (h0.mend (by omega) a).le (by omega)
theorem clTo_len (x : Dsk) (tw : List Int) : ∀ a : Nat, (clTo x tw a).2.length = a
 | 0 => rfl
 | a + 1 => by
  show ((clTo x tw a).2 ++ [_]).length = _
  rw [List.length_append, clTo_len x tw a]
  rfl
def DBx (w : World) (g : Nat) (d : Dsk) : Prop := ∃ A n c E m e, Box w g 27 #[.slice A n c, .slice E m e] ∧ DskV tD w 0 (.agg #[.slice A n c, .slice E m e]) d
set_option maxRecDepth 100000 in
set_option maxHeartbeats 4000000 in
theorem fClean_v {T : List TypeId} {base j : Nat} {v : Value} {d : Dsk} {w : World} (h : DskV T w base v d) (hf : Fine d j) (h12 : d.blocks.length = 12) :
  Calls Tryz.prog 24 #[v] w fun e w' => ∃ x tw, e = .returned (.tuple #[x, .agg (repC (fClean d).2.1), tw]) ∧ DskV tD w' 0 x (fClean d).1 ∧ Row eInt [3] w' 0 tw (fClean d).2.2 ∧ Ext w w' := by
 obtain ⟨A, n, c, E, m, e, rfl, HN, HM, hb, hl, hnc, hme⟩ := h.form
 obtain rfl : n = 12 := HN.out.trans h12
 have HF := Lib.hid hf
 have H12 := Lib.hid h12
 clear hb hl HM HN hf h12
 go_enter Tryz.func24, Tryz.ntmps24
 go_upto_region 2 with (fail)
 generalize hwn : World.alloc (World.alloc (World.alloc (World.alloc w _) _) _) _ = w1
 have hx : Ext w w1 := by rw [← hwn]; exact (((ext_alloc _ _).alloc (by simp) _).alloc (by simp <;> omega) _).alloc (by simp <;> omega) _
 have b1 : Box w1 w.heap.size 27 #[.slice A 12 c, .slice E m e] := by rw [← hwn]; exact (((Box.new _ _ _ rfl).alloc _).alloc _).alloc _
 have b2 : Box w1 (w.heap.size + 1) 27 #[.slice none 0 0, .slice none 0 0] := by rw [← hwn]; exact ((Box.new _ _ _ (by simp)).alloc _).alloc _
 have b3 : Box w1 (w.heap.size + 2) 50 (repC []) := by rw [← hwn]; exact (Box.new _ _ _ (by simp)).alloc _
 have b5 : Box w1 (w.heap.size + 3) 50 (repC []) := by rw [← hwn]; exact Box.new _ _ _ (by simp)
 clear hwn
 obtain ⟨g1, hg1⟩ : ∃ g, g = w.heap.size := ⟨_, rfl⟩
 obtain ⟨g2, hg2⟩ : ∃ g, g = w.heap.size + 1 := ⟨_, rfl⟩
 obtain ⟨g3, hg3⟩ : ∃ g, g = w.heap.size + 2 := ⟨_, rfl⟩
 obtain ⟨g5, hg5⟩ : ∃ g, g = w.heap.size + 3 := ⟨_, rfl⟩
 rw [← hg5] at b5 ⊢
 rw [← hg3] at b3 ⊢
 rw [← hg2] at b2 ⊢
 rw [← hg1]
 rw [show Box w1 w.heap.size 27 #[.slice A 12 c, .slice E m e] ↔ Box w1 g1 27 #[.slice A 12 c, .slice E m e] by rw [hg1]] at b1
 have l1 : w.heap.size ≤ g1 := by omega
 have l2 : g1 < g2 := by omega
 have l3 : g2 < g3 := by omega
 have l5 : g3 < g5 := by omega
 clear hg1 hg2 hg3 hg5
 obtain ⟨b1_0, b1_1⟩ := b1.c2
 have b1_z := b1.free
 have b1_l := b1.lt
 go_wp2_with fail
 refine (dskKeep_v (k := 0) (h.ext hx) HF.out.ok HF.out.inn).mono ?_
 rintro e2 w2 ⟨v2, rfl, o2, he⟩
 try clear b1_0 b1_1 b1_z b1_l
 have hx := ext_trans hx he
 have b1 := b1.ext he
 have b2 := b2.ext he
 have b3 := b3.ext he
 have b5 := b5.ext he
 clear he
 have d2 := o2.v
 clear o2 h
 have HX := Lib.hid (HF.out.keep 0)
 have HC := Lib.hid (show fClean d = (dFlush (clTo (dKeep d 0) (fTwice (dKeep d 0)) 6).1, (clTo (dKeep d 0) (fTwice (dKeep d 0)) 6).2, fTwice (dKeep d 0)) by unfold fClean; rw [H12.out])
 generalize dKeep d 0 = x at d2 HX HC
 obtain ⟨A2, n2, c2, E2, m2, e2, rfl, _, _, _, _, _, _⟩ := d2.form
 go_upto_region 3 with (fail)
 generalize hwn : World.alloc w2 _ = w3
 have he : Ext w2 w3 := by rw [← hwn]; exact ext_alloc _ _
 have b6 : Box w3 w2.heap.size 27 #[.slice A2 n2 c2, .slice E2 m2 e2] := by rw [← hwn]; exact Box.new _ _ _ (by simp)
 clear hwn
 have l6 := b5.lt
 have hx := ext_trans hx he
 have b1 := b1.ext he
 have b2 := b2.ext he
 have b3 := b3.ext he
 have b5 := b5.ext he
 have d2 := d2.ext he
 clear he
 obtain ⟨g6, hg6⟩ : ∃ g, g = w2.heap.size := ⟨_, rfl⟩
 rw [← hg6] at b6 l6 ⊢
 clear hg6
 obtain ⟨b6_0, b6_1⟩ := b6.c2
 have b6_z := b6.free
 have b6_l := b6.lt
 go_wp2_with fail
 refine (fTwice_v d2 HX.out.ok).mono ?_
 rintro e4 w4 ⟨v4, rfl, o4, he⟩
 try clear b6_0 b6_1 b6_z b6_l
 have hx := ext_trans hx he
 have b1 := b1.ext he
 have b2 := b2.ext he
 have b3 := b3.ext he
 have b5 := b5.ext he
 have b6 := b6.ext he
 have d2 := d2.ext he
 clear he
 have r7 := o4.row (T := [3]) (base := 0) (by decide) (Nat.le_refl _)
 clear o4
 generalize fTwice x = tw at r7 HC
 obtain ⟨A7, n7, c7, rfl, _, _, _⟩ := r7.form
 obtain ⟨b1_0, b1_1⟩ := b1.c2
 have b1_z := b1.free
 have b1_l := b1.lt
 go_upto_region 5 with (fail)
 try clear b1_0 b1_1 b1_z b1_l
 go_loopw [19] (fun i wr => ∃ a : Nat, a ≤ 6 ∧ i = .int .i64 a ∧ Box wr g2 27 #[.slice none 0 0, .slice none 0 0] ∧ Box wr g3 50 (repC []) ∧ Box wr g5 50 (repC (clTo x tw a).2) ∧ DBx wr g6 (clTo x tw a).1 ∧ Row eInt [3] wr 0 (.slice A7 n7 c7) tw ∧ Ext w wr) (fun i _ => 6 - (intOf i).toNat)
 case atStart => exact ⟨0, by omega, rfl, b2, b3, b5, ⟨_, _, _, _, _, _, b6, d2⟩, r7, hx⟩
 case round =>
  clear hx b1 b2 b3 b5 b6 d2 r7
  obtain ⟨a, ha, rfl, b2, b3, b5, ⟨A6, n6, c6, E6, m6, e6, b6, d6⟩, r7, hx⟩ := hrel
  have hz := hx.size
  by_cases hlt : a < 6
  ·have e1 : (a : Int) < 6 := by omega
   have HY := Lib.hid (clTo_fine HX.out tw a ha)
   have HST := Lib.hid (show clTo x tw (a + 1) = (if tw.contains (a : Int) = true then (pPut (pMend (clTo x tw a).1 a).1 a rFree).1 else (pMend (clTo x tw a).1 a).1, (clTo x tw a).2 ++ [(pMend (clTo x tw a).1 a).2]) from rfl)
   have HLN : Hid ((clTo x tw a).2.length = a) := Lib.hid (clTo_len x tw a)
   generalize clTo x tw a = y at b5 d6 HY HST HLN
   obtain ⟨b6_0, b6_1⟩ := b6.c2
   have b6_z := b6.free
   have b6_l := b6.lt
   go_wp2_with fail
   refine (mend_v (p := (a : Int)) d6 HY.out.ok (by have := HY.out.late; omega)).mono ?_
   rintro e8 w8 ⟨v8, q8, rfl, HQ8, d8, he⟩
   try clear b6_0 b6_1 b6_z b6_l
   have hx := ext_trans hx he
   have b2 := b2.ext he
   have b3 := b3.ext he
   have b5 := b5.ext he
   have b6 := b6.ext he
   have r7 := r7.ext he
   clear he
   clear d6
   obtain ⟨A8, n8, c8, E8, m8, e8, rfl, _, _, _, _, _, _⟩ := d8.form
   obtain ⟨q, hq, hq6⟩ := look_how y.1 (a : Int)
   obtain rfl : q8 = (q : Int) := HQ8.out.trans ((pMend_how y.1 a).trans hq)
   have HM := Lib.hid (HY.out.mend (by omega) (a : Int))
   rw [← HQ8.out] at HST
   clear HQ8 HY hq
   generalize (pMend y.1 a).1 = z1 at d8 HM HST
   have l9 := b6.lt
   go_upto_region 8 with (fail)
   generalize hwn : World.alloc w8 _ = w9
   have he : Ext w8 w9 := by rw [← hwn]; exact ext_alloc _ _
   have b9 : Box w9 w8.heap.size 27 #[.slice A8 n8 c8, .slice E8 m8 e8] := by rw [← hwn]; exact Box.new _ _ _ (by simp)
   clear hwn
   have hx := ext_trans hx he
   have b2 := b2.ext he
   have b3 := b3.ext he
   have b5 := b5.ext he
   have b6 := b6.ext he
   have r7 := r7.ext he
   have d8 := d8.ext he
   clear he
   obtain ⟨g9, hg9⟩ : ∃ g, g = w8.heap.size := ⟨_, rfl⟩
   rw [← hg9] at b9 l9 ⊢
   clear hg9
   have HQ := Lib.hid (repC_set y.2 hq6)
   obtain ⟨hr0, hr1⟩ := rc_len y.2 q
   have x0 := b5.cell q (repC_at y.2 hq6)
   have xf := b5.free q
   have xl := b5.lt
   have hwr : IntKind.wrap .i64 (rc y.2 q + 1) = rc y.2 q + 1 := by rw [IntKind.wrap_i64]; have := HLN.out; omega
   have q0 : (0 : Int) ≤ (q : Int) := by omega
   have q6 : (q : Int) < 6 := by omega
   generalize rc y.2 q = z at x0 HQ hr0 hr1 hwr
   clear hr0 hr1
   go_upto_region 9 with (fail)
   clear x0 xf xl hwr q0 q6
   generalize hwn : World.setCell w9 _ _ = w10
   have k5 := b5.kd
   have b2 : Box w10 g2 27 #[.slice none 0 0, .slice none 0 0] := by rw [← hwn]; (repeat (with_reducible (first | assumption | refine Box.alloc ?_ _ | refine Box.setOther ?_ (by simp <;> omega) _)))
   have b3 : Box w10 g3 50 (repC []) := by rw [← hwn]; (repeat (with_reducible (first | assumption | refine Box.alloc ?_ _ | refine Box.setOther ?_ (by simp <;> omega) _)))
   have b6 : Box w10 g6 27 #[.slice A6 n6 c6, .slice E6 m6 e6] := by rw [← hwn]; (repeat (with_reducible (first | assumption | refine Box.alloc ?_ _ | refine Box.setOther ?_ (by simp <;> omega) _)))
   have b9 : Box w10 g9 27 #[.slice A8 n8 c8, .slice E8 m8 e8] := by rw [← hwn]; (repeat (with_reducible (first | assumption | refine Box.alloc ?_ _ | refine Box.setOther ?_ (by simp <;> omega) _)))
   have r7 : Row eInt [3] w10 0 (.slice A7 n7 c7) tw := r7.kept (by rw [← hwn]; (repeat (with_reducible (first | assumption | exact Kept.refl _ _ _ | (apply Kept.setK; rotate_left; (repeat (first | assumption | apply Kd.set | apply Kd.alloc | apply Kd.drew)); decide; omega) | refine Kept.allocK ?_ _ | refine Kept.drewK ?_))))
   have d8 : DskV tD w10 0 (.agg #[.slice A8 n8 c8, .slice E8 m8 e8]) z1 := d8.kept (by rw [← hwn]; (repeat (with_reducible (first | assumption | exact Kept.refl _ _ _ | (apply Kept.setK; rotate_left; (repeat (first | assumption | apply Kd.set | apply Kd.alloc | apply Kd.drew)); decide; omega) | refine Kept.allocK ?_ _ | refine Kept.drewK ?_))))
   have hx : Ext w w10 := by rw [← hwn]; (repeat (with_reducible (first | assumption | exact Below.refl _ _ | refine Below.setCell ?_ (by simp <;> omega) _ | refine Below.alloc ?_ (by simp <;> omega) _ | refine Below.drew ?_ | refine below_drewN ?_ _)))
   have b5 : Box w10 g5 50 (repC (y.2 ++ [(q : Int)])) := by rw [← hwn, ← HQ.out]; exact b5.set _ _
   clear hwn k5 HQ
   obtain ⟨b6_0, b6_1⟩ := b6.c2
   have b6_z := b6.free
   have b6_l := b6.lt
   obtain ⟨b9_0, b9_1⟩ := b9.c2
   have b9_z := b9.free
   have b9_l := b9.lt
   go_upto_region 10 with (fail)
   try clear b6_0 b6_1 b6_z b6_l b9_0 b9_1 b9_z b9_l
   have k6 := b6.kd
   generalize hwn : World.setCell (World.setCell w10 _ _) _ _ = w11
   have b2 : Box w11 g2 27 #[.slice none 0 0, .slice none 0 0] := by rw [← hwn]; (repeat (with_reducible (first | assumption | refine Box.alloc ?_ _ | refine Box.setOther ?_ (by simp <;> omega) _)))
   have b3 : Box w11 g3 50 (repC []) := by rw [← hwn]; (repeat (with_reducible (first | assumption | refine Box.alloc ?_ _ | refine Box.setOther ?_ (by simp <;> omega) _)))
   have b5 : Box w11 g5 50 (repC (y.2 ++ [(q : Int)])) := by rw [← hwn]; (repeat (with_reducible (first | assumption | refine Box.alloc ?_ _ | refine Box.setOther ?_ (by simp <;> omega) _)))
   have r7 : Row eInt [3] w11 0 (.slice A7 n7 c7) tw := r7.kept (by rw [← hwn]; (repeat (with_reducible (first | assumption | exact Kept.refl _ _ _ | (apply Kept.setK; rotate_left; (repeat (first | assumption | apply Kd.set | apply Kd.alloc | apply Kd.drew)); decide; omega) | refine Kept.allocK ?_ _ | refine Kept.drewK ?_))))
   have d8 : DskV tD w11 0 (.agg #[.slice A8 n8 c8, .slice E8 m8 e8]) z1 := d8.kept (by rw [← hwn]; (repeat (with_reducible (first | assumption | exact Kept.refl _ _ _ | (apply Kept.setK; rotate_left; (repeat (first | assumption | apply Kd.set | apply Kd.alloc | apply Kd.drew)); decide; omega) | refine Kept.allocK ?_ _ | refine Kept.drewK ?_))))
   have hx : Ext w w11 := by rw [← hwn]; (repeat (with_reducible (first | assumption | exact Below.refl _ _ | refine Below.setCell ?_ (by simp <;> omega) _ | refine Below.alloc ?_ (by simp <;> omega) _ | refine Below.drew ?_ | refine below_drewN ?_ _)))
   have b6 : Box w11 g6 27 #[.slice A8 n8 c8, .slice E8 m8 e8] := by rw [← hwn]; exact (b6.set 0 _).set 1 _
   clear hwn k6 b9
   go_wp2_with fail
   refine (intHas_v (x := (a : Int)) r7).mono ?_
   rintro e12 w12 ⟨rfl, he⟩
   have hx := ext_trans hx he
   have b2 := b2.ext he
   have b3 := b3.ext he
   have b5 := b5.ext he
   have b6 := b6.ext he
   have r7 := r7.ext he
   have d8 := d8.ext he
   clear he
   cases hct : tw.contains (a : Int) with
   | false =>
    have HS2 := Lib.hid (show clTo x tw (a + 1) = (z1, y.2 ++ [(q : Int)]) by rw [HST.out, hct]; rfl)
    clear hct HST
    go_wp2_with fail
    refine ⟨⟨a + 1, by omega, rfl, b2, b3, by rw [HS2.out]; exact b5, ⟨_, _, _, _, _, _, b6, by rw [HS2.out]; exact d8⟩, r7, hx⟩, ?_⟩
    simp only [intOf]
    omega
   | true =>
    have HS2 := Lib.hid (show clTo x tw (a + 1) = ((pPut z1 a rFree).1, y.2 ++ [(q : Int)]) by rw [HST.out, hct]; rfl)
    clear hct HST
    obtain ⟨b6_0, b6_1⟩ := b6.c2
    have b6_z := b6.free
    have b6_l := b6.lt
    go_wp2_with fail
    refine (pPut_v (p := (a : Int)) (r := rFree) d8 HM.out.ok (by have := HM.out.late; omega) ⟨_, rfl, ByT.nil _ 0⟩).mono ?_
    rintro e13 w13 ⟨v13, q13, rfl, _, d13, he⟩
    try clear b6_0 b6_1 b6_z b6_l
    have hx := ext_trans hx he
    have b2 := b2.ext he
    have b3 := b3.ext he
    have b5 := b5.ext he
    have b6 := b6.ext he
    have r7 := r7.ext he
    clear he
    obtain ⟨A13, n13, c13, E13, m13, e13, rfl, _, _, _, _, _, _⟩ := d13.form
    have k6 := b6.kd
    obtain ⟨b6_0, b6_1⟩ := b6.c2
    have b6_z := b6.free
    have b6_l := b6.lt
    go_wp2_with fail
    try clear b6_0 b6_1 b6_z b6_l
    refine ⟨⟨a + 1, by omega, rfl, by (repeat (with_reducible (first | assumption | refine Box.alloc ?_ _ | refine Box.setOther ?_ (by simp <;> omega) _))), by (repeat (with_reducible (first | assumption | refine Box.alloc ?_ _ | refine Box.setOther ?_ (by simp <;> omega) _))), ?_, ⟨_, _, _, _, _, _, (b6.set 0 _).set 1 _, ?_⟩, r7.kept (by (repeat (with_reducible (first | assumption | exact Kept.refl _ _ _ | (apply Kept.setK; rotate_left; (repeat (first | assumption | apply Kd.set | apply Kd.alloc | apply Kd.drew)); decide; omega) | refine Kept.allocK ?_ _ | refine Kept.drewK ?_)))), by (repeat (with_reducible (first | assumption | exact Below.refl _ _ | refine Below.setCell ?_ (by simp <;> omega) _ | refine Below.alloc ?_ (by simp <;> omega) _ | refine Below.drew ?_ | refine below_drewN ?_ _)))⟩, ?_⟩
    ·rw [HS2.out]
     (repeat (with_reducible (first | assumption | refine Box.alloc ?_ _ | refine Box.setOther ?_ (by simp <;> omega) _)))
    ·rw [HS2.out]
     exact d13.kept (by (repeat (with_reducible (first | assumption | exact Kept.refl _ _ _ | (apply Kept.setK; rotate_left; (repeat (first | assumption | apply Kd.set | apply Kd.alloc | apply Kd.drew)); decide; omega) | refine Kept.allocK ?_ _ | refine Kept.drewK ?_))))
    ·simp only [intOf]
     omega
  ·obtain rfl : a = 6 := by omega
   have HY := Lib.hid (clTo_fine HX.out tw 6 ha)
   generalize clTo x tw 6 = y at b5 d6 HY HC
   go_upto_region 13 with (fail)
   have he : Ext wr wr.drew := (Below.refl _ _).drew
   have hx := ext_trans hx he
   have b2 := b2.ext he
   have b3 := b3.ext he
   have b5 := b5.ext he
   have b6 := b6.ext he
   have r7 := r7.ext he
   have d6 := d6.ext he
   clear he
   refine wp_region_uk w.heap.size [g6, g5] 7 [3, 6] [0, 2, 3, 6] rfl (by kernel_rfl) (by kernel_rfl) ?_
   generalize wr.drew = D at hx b2 b3 b5 b6 r7 d6 ⊢
   apply uF 0 (by kernel_rfl) (by rfl) (by rfl) (by rfl)
   ·(intro w' hx; obtain ⟨x0, x1⟩ := (b6.xk hx (by simp)).c2; go_simp <;> with_reducible rfl)
   simp only [pA, pB, pC, pD]
   apply uF 2 (by kernel_rfl) (by rfl) (by rfl) (by rfl)
   ·(intro w' hx; obtain ⟨x0, x1, x2, x3, x4, x5⟩ := (b5.xk hx (by simp)).c6; go_simp <;> with_reducible rfl)
   simp only [pA, pB, pC, pD]
   apply uU 3 (by kernel_rfl) (by rfl) (by rfl)
   ·(intro w'; go_simp <;> with_reducible rfl)
   simp only [pA, pB, pC, pD]
   refine uS 1 (by kernel_rfl) (by kernel_rfl) (by rfl) (by rfl) (fun K hK => ?_)
   go_wp2_with (go_at_call 37; refine (dskFlush_v d6 HY.out.ok HY.out.inn).mono ?_; rintro e w9 ⟨v9, rfl, o9, he⟩)
   refine hK.out _ _ (XK.ext he hx.size (by have := b6.lt; have := b5.lt; simp; omega)) ?_
   clear hK K
   try simp only [pA, pB, pC, pD]
   have d9 := o9.v
   clear o9 d6
   obtain ⟨A9, n9, c9, E9, m9, e9, rfl, _, _, _, _, _, _⟩ := d9.form
   have hx := ext_trans hx he
   have b2 := b2.ext he
   have b3 := b3.ext he
   have r7 := r7.ext he
   clear he b5 b6
   refine uS 4 (by kernel_rfl) (by kernel_rfl) (by rfl) (by rfl) (fun K hK => ?_)
   have k2 := b2.kd
   obtain ⟨b2_0, b2_1⟩ := b2.c2
   have b2_z := b2.free
   have b2_l := b2.lt
   go_wp2
   try clear b2_0 b2_1 b2_z b2_l
   refine hK.out _ _ (by repeat (with_reducible (first | exact XK.refl _ _ _ | refine xk_set ?_ (by omega) (by simp; omega) _ _))) ?_
   clear hK K
   try simp only [pA, pB, pC, pD]
   generalize hwn : World.setCell (World.setCell w9 _ _) _ _ = w10
   have b3 : Box w10 g3 50 (repC []) := by rw [← hwn]; (repeat (with_reducible (first | assumption | refine Box.alloc ?_ _ | refine Box.setOther ?_ (by simp <;> omega) _)))
   have r7 : Row eInt [3] w10 0 (.slice A7 n7 c7) tw := r7.kept (by rw [← hwn]; (repeat (with_reducible (first | assumption | exact Kept.refl _ _ _ | (apply Kept.setK; rotate_left; (repeat (first | assumption | apply Kd.set | apply Kd.alloc | apply Kd.drew)); decide; omega) | refine Kept.allocK ?_ _ | refine Kept.drewK ?_))))
   have d9 : DskV tD w10 0 (.agg #[.slice A9 n9 c9, .slice E9 m9 e9]) (dFlush y.1) := d9.kept (by rw [← hwn]; (repeat (with_reducible (first | assumption | exact Kept.refl _ _ _ | (apply Kept.setK; rotate_left; (repeat (first | assumption | apply Kd.set | apply Kd.alloc | apply Kd.drew)); decide; omega) | refine Kept.allocK ?_ _ | refine Kept.drewK ?_))))
   have hx : Ext w w10 := by rw [← hwn]; (repeat (with_reducible (first | assumption | exact Below.refl _ _ | refine Below.setCell ?_ (by simp <;> omega) _ | refine Below.alloc ?_ (by simp <;> omega) _ | refine Below.drew ?_ | refine below_drewN ?_ _)))
   have b2 : Box w10 g2 27 #[.slice A9 n9 c9, .slice E9 m9 e9] := by rw [← hwn]; exact (b2.set 0 _).set 1 _
   clear hwn k2
   refine uL 5 (by kernel_rfl) (by kernel_rfl) (by kernel_rfl) (by rfl) (by rfl) (fun K hK => ?_)
   have hK' := Lib.hid hK
   clear hK
   have k3 := b3.kd
   obtain ⟨b3_0, b3_1, b3_2, b3_3, b3_4, b3_5⟩ := b3.c6
   have b3_z := b3.free
   have b3_l := b3.lt
   obtain ⟨b2_0, b2_1⟩ := b2.c2
   have b2_z := b2.free
   have b2_l := b2.lt
   go_wp2
   refine hK'.out _ _ ?_
   clear hK' K
   apply uU 6 (by kernel_rfl) (by rfl) (by rfl)
   ·(intro w'; go_simp <;> with_reducible rfl)
   simp only [pA, pB, pC, pD]
   refine uEnd (by kernel_rfl) ?_
   go_wp2_with fail
   ((try simp only [Exit.inBlock, Exit.then]); refine bodyPost_ret (v := ?_) ?resultOf rfl ?_; case resultOf => (rw [results_cct rfl]; go_simp; rfl))
   try clear b3_0 b3_1 b3_2 b3_3 b3_4 b3_5 b3_z b3_l b2_0 b2_1 b2_z b2_l
   rw [HC.out]
   exact ⟨_, _, rfl, d9.kept (by (repeat (with_reducible (first | assumption | exact Kept.refl _ _ _ | (apply Kept.setK; rotate_left; (repeat (first | assumption | apply Kd.set | apply Kd.alloc | apply Kd.drew)); decide; omega) | refine Kept.allocK ?_ _ | refine Kept.drewK ?_)))), r7.kept (by (repeat (with_reducible (first | assumption | exact Kept.refl _ _ _ | (apply Kept.setK; rotate_left; (repeat (first | assumption | apply Kd.set | apply Kd.alloc | apply Kd.drew)); decide; omega) | refine Kept.allocK ?_ _ | refine Kept.drewK ?_)))), by (repeat (with_reducible (first | assumption | exact Below.refl _ _ | refine Below.setCell ?_ (by simp <;> omega) _ | refine Below.alloc ?_ (by simp <;> omega) _ | refine Below.drew ?_ | refine below_drewN ?_ _)))⟩
end Go.Proofs.YtdmnmfnmaccmoaaGreatDoor
