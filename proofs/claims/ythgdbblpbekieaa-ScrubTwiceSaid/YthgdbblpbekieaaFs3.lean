/- Walks: scrub.Look, scref6.Report. -/
import Derived.Test.YthgdbblpbekieaaFs2
namespace Go.Proofs.Ythgdbblpbekieaa
open Go Go.RowKit

/-- How often a number is in a list. -/
def rc (l : List Int) (h : Nat) : Int := ((l.filter fun x => decide (x = (h : Int))).length : Int)
def repC (l : List Int) : Array Value := #[.int .i64 (rc l 0), .int .i64 (rc l 1), .int .i64 (rc l 2), .int .i64 (rc l 3), .int .i64 (rc l 4), .int .i64 (rc l 5)]
theorem rc_nil (h : Nat) : rc [] h = 0 := rfl
theorem rc_snoc (l : List Int) (x : Int) (h : Nat) : rc (l ++ [x]) h = rc l h + if x = (h : Int) then 1 else 0 := by
 unfold rc
 rw [List.filter_append, List.length_append]
 by_cases e : x = (h : Int) <;> simp [e]
theorem rc_len (l : List Int) (h : Nat) : 0 ≤ rc l h ∧ rc l h ≤ l.length := by
 unfold rc
 have := List.length_filter_le (fun x => decide (x = (h : Int))) l
 omega
theorem repC_at (l : List Int) {h : Nat} (hh : h < 6) : (repC l)[h]? = some (.int .i64 (rc l h)) := by
 match h, hh with
 | 0, _ => rfl
 | 1, _ => rfl
 | 2, _ => rfl
 | 3, _ => rfl
 | 4, _ => rfl
 | 5, _ => rfl
theorem repC_set (l : List Int) {h : Nat} (hh : h < 6) : (repC l).setIfInBounds h (.int .i64 (rc l h + 1)) = repC (l ++ [(h : Int)]) := by
 unfold repC
 simp only [rc_snoc]
 match h, hh with
 | 0, _ => simp
 | 1, _ => simp
 | 2, _ => simp
 | 3, _ => simp
 | 4, _ => simp
 | 5, _ => simp
theorem look_how (d : Dsk) (p : Int) : ∃ h : Nat, (pLook d p).1 = (h : Int) ∧ h < 6 := by
 unfold pLook pHow
 split
 ·split
  ·exact ⟨4, rfl, by omega⟩
  ·split
   ·split
    ·exact ⟨1, rfl, by omega⟩
    ·exact ⟨5, rfl, by omega⟩
   ·split
    ·exact ⟨2, rfl, by omega⟩
    ·split
     ·exact ⟨2, rfl, by omega⟩
     ·split
      ·exact ⟨0, rfl, by omega⟩
      ·exact ⟨3, rfl, by omega⟩
 ·exact ⟨4, rfl, by omega⟩
theorem hows_step (d : Dsk) (a : Nat) : scHows d (a + 1) = scHows d a ++ [(pLook d a).1] := by
 unfold scHows
 rw [List.range_succ, List.map_append]
 rfl
theorem hows_len (d : Dsk) (a : Nat) : (scHows d a).length = a := by simp [scHows]

set_option maxRecDepth 100000 in
set_option maxHeartbeats 4000000 in
theorem scLook_v {T : List TypeId} {base : Nat} {v : Value} {d : Dsk} {w : World} (h : DskV T w base v d) (hk : DskOk d) :
  Calls Try.prog 89 #[v] w fun e w' => e = .returned (.agg (repC (scHows d (d.blocks.length / 2)))) ∧ Ext w w' := by
 obtain ⟨A, n, c, E, m, e, rfl, HN, HM, hb, hl, hnc, hme⟩ := h.form
 clear hb hl HM
 have hn4 : n ≤ 4096 := by have := hk.blocks; have := HN.out; omega
 obtain ⟨k, hk2⟩ : ∃ k : Nat, (n : Int) / 2 = (k : Int) := ⟨n / 2, by omega⟩
 have HK := Lib.hid (show k = d.blocks.length / 2 by rw [← HN.out]; omega)
 have hk4 : k ≤ 2048 := by omega
 go_enter Try.func89, Try.ntmps89
 go_upto_region 2 with (fail)
 generalize hwn : World.alloc (World.alloc (World.alloc w _) _) _ = w1
 have hx : Ext w w1 := by rw [← hwn]; exact ((ext_alloc _ _).alloc (by simp) _).alloc (by simp <;> omega) _
 have b1 : Box w1 w.heap.size 42 #[.slice A n c, .slice E m e] := by rw [← hwn]; exact ((Box.new _ _ _ rfl).alloc _).alloc _
 have b2 : Box w1 (w.heap.size + 1) 89 (repC []) := by rw [← hwn]; exact (Box.new _ _ _ (by simp)).alloc _
 have b3 : Box w1 (w.heap.size + 2) 89 (repC []) := by rw [← hwn]; exact Box.new _ _ _ (by simp)
 clear hwn
 obtain ⟨g1, hg1⟩ : ∃ g, g = w.heap.size := ⟨_, rfl⟩
 obtain ⟨g2, hg2⟩ : ∃ g, g = w.heap.size + 1 := ⟨_, rfl⟩
 obtain ⟨g3, hg3⟩ : ∃ g, g = w.heap.size + 2 := ⟨_, rfl⟩
 rw [← hg3] at b3 ⊢
 rw [← hg2] at b2 ⊢
 rw [← hg1]
 rw [show Box w1 w.heap.size 42 #[.slice A n c, .slice E m e] ↔ Box w1 g1 42 #[.slice A n c, .slice E m e] by rw [hg1]] at b1
 have l1 : w.heap.size ≤ g1 := by omega
 have l2 : g1 < g2 := by omega
 have l3 : g2 < g3 := by omega
 clear hg1 hg2 hg3
 obtain ⟨b1_0, b1_1⟩ := b1.c2
 have b1_z := b1.free
 have b1_l := b1.lt
 go_upto_region 3 with (fail)
 try rw [hk2]
 try clear b1_0 b1_1 b1_z b1_l
 go_loopw [11] (fun i wr => ∃ a : Nat, a ≤ k ∧ i = .int .i64 a ∧ Box wr g1 42 #[.slice A n c, .slice E m e] ∧ Box wr g2 89 (repC []) ∧ Box wr g3 89 (repC (scHows d a)) ∧ Ext w wr) (fun i _ => k - (intOf i).toNat)
 case atStart => exact ⟨0, by omega, rfl, b1, b2, b3, hx⟩
 case round =>
  clear hx b1 b2 b3
  obtain ⟨a, ha, rfl, b1, b2, b3, hx⟩ := hrel
  have hz := hx.size
  by_cases hlt : a < k
  ·have e1 : (a : Int) < (k : Int) := by omega
   obtain ⟨b1_0, b1_1⟩ := b1.c2
   have b1_z := b1.free
   have b1_l := b1.lt
   go_wp2_with fail
   refine (look_v (p := (a : Int)) (h.ext hx) hk).mono ?_
   rintro e2 w2 ⟨rv, rfl, hr, he⟩
   try clear b1_0 b1_1 b1_z b1_l
   have hx := ext_trans hx he
   have b1 := b1.ext he
   have b2 := b2.ext he
   have b3 := b3.ext he
   clear he
   obtain ⟨q, hq, hq6⟩ := look_how d (a : Int)
   have HS := Lib.hid (hows_step d a)
   have hlen := hows_len d a
   rw [hq] at HS ⊢
   have HQ := Lib.hid (repC_set (scHows d a) hq6)
   obtain ⟨hr0, hr1⟩ := rc_len (scHows d a) q
   have x0 := b3.cell q (repC_at (scHows d a) hq6)
   have xf := b3.free q
   have xl := b3.lt
   have hwr : IntKind.wrap .i64 (rc (scHows d a) q + 1) = rc (scHows d a) q + 1 := by rw [IntKind.wrap_i64]; omega
   have q0 : (0 : Int) ≤ (q : Int) := by omega
   have q6 : (q : Int) < 6 := by omega
   generalize rc (scHows d a) q = z at x0 HQ hr0 hr1 hwr
   rw [hlen] at hr1
   clear hlen hq
   obtain ⟨u2, rfl, hu2⟩ := hr
   obtain ⟨A2, n2, c2, rfl, _, _⟩ := hu2.form
   go_wp2_with fail
   refine ⟨⟨a + 1, by omega, rfl, by (repeat (with_reducible (first | assumption | refine Box.alloc ?_ _ | refine Box.setOther ?_ (by simp <;> omega) _))), by (repeat (with_reducible (first | assumption | refine Box.alloc ?_ _ | refine Box.setOther ?_ (by simp <;> omega) _))), ?_, by (repeat (with_reducible (first | assumption | exact Below.refl _ _ | refine Below.setCell ?_ (by simp <;> omega) _ | refine Below.alloc ?_ (by simp <;> omega) _ | refine Below.drew ?_ | refine below_drewN ?_ _)))⟩, ?_⟩
   ·rw [HS.out, ← HQ.out]
    exact (b3.set _ _).alloc _
   ·simp only [intOf]
    omega
  ·obtain rfl : a = k := by omega
   obtain ⟨b3_0, b3_1, b3_2, b3_3, b3_4, b3_5⟩ := b3.c6
   have b3_z := b3.free
   have b3_l := b3.lt
   obtain ⟨b2_0, b2_1, b2_2, b2_3, b2_4, b2_5⟩ := b2.c6
   have b2_z := b2.free
   have b2_l := b2.lt
   go_wp2_with fail
   ((try simp only [Exit.inBlock, Exit.then]); refine bodyPost_ret (v := ?_) ?resultOf rfl ?_; case resultOf => (rw [results_cell1 rfl]; go_simp; rfl))
   rw [← HK.out]
   exact ⟨rfl, by (repeat (with_reducible (first | assumption | exact Below.refl _ _ | refine Below.setCell ?_ (by simp <;> omega) _ | refine Below.alloc ?_ (by simp <;> omega) _ | refine Below.drew ?_ | refine below_drewN ?_ _)))⟩
set_option maxRecDepth 100000 in
set_option maxHeartbeats 4000000 in
theorem refReport_v {T : List TypeId} {base : Nat} {v : Value} {d : Dsk} {w : World} (h : DskV T w base v d) (hk : DskOk d) :
  Calls Try.prog 90 #[v] w fun e w' => e = .returned (.agg (repC (scHows d 6))) ∧ Ext w w' := by
 obtain ⟨A, n, c, E, m, e, rfl, HN, HM, hb, hl, hnc, hme⟩ := h.form
 clear hb hl HM HN
 go_enter Try.func90, Try.ntmps90
 go_upto_region 2 with (fail)
 generalize hwn : World.alloc (World.alloc (World.alloc w _) _) _ = w1
 have hx : Ext w w1 := by rw [← hwn]; exact ((ext_alloc _ _).alloc (by simp) _).alloc (by simp <;> omega) _
 have b1 : Box w1 w.heap.size 42 #[.slice A n c, .slice E m e] := by rw [← hwn]; exact ((Box.new _ _ _ rfl).alloc _).alloc _
 have b2 : Box w1 (w.heap.size + 1) 89 (repC []) := by rw [← hwn]; exact (Box.new _ _ _ (by simp)).alloc _
 have b3 : Box w1 (w.heap.size + 2) 89 (repC []) := by rw [← hwn]; exact Box.new _ _ _ (by simp)
 clear hwn
 obtain ⟨g1, hg1⟩ : ∃ g, g = w.heap.size := ⟨_, rfl⟩
 obtain ⟨g2, hg2⟩ : ∃ g, g = w.heap.size + 1 := ⟨_, rfl⟩
 obtain ⟨g3, hg3⟩ : ∃ g, g = w.heap.size + 2 := ⟨_, rfl⟩
 rw [← hg3] at b3 ⊢
 rw [← hg2] at b2 ⊢
 rw [← hg1]
 rw [show Box w1 w.heap.size 42 #[.slice A n c, .slice E m e] ↔ Box w1 g1 42 #[.slice A n c, .slice E m e] by rw [hg1]] at b1
 have l1 : w.heap.size ≤ g1 := by omega
 have l2 : g1 < g2 := by omega
 have l3 : g2 < g3 := by omega
 clear hg1 hg2 hg3
 go_wp2_with fail
 go_loopw [8] (fun i wr => ∃ a : Nat, a ≤ 6 ∧ i = .int .i64 a ∧ Box wr g1 42 #[.slice A n c, .slice E m e] ∧ Box wr g2 89 (repC []) ∧ Box wr g3 89 (repC (scHows d a)) ∧ Ext w wr) (fun i _ => 6 - (intOf i).toNat)
 case atStart => exact ⟨0, by omega, rfl, b1, b2, b3, hx⟩
 case round =>
  clear hx b1 b2 b3
  obtain ⟨a, ha, rfl, b1, b2, b3, hx⟩ := hrel
  have hz := hx.size
  by_cases hlt : a < 6
  ·have e1 : (a : Int) < 6 := by omega
   obtain ⟨b1_0, b1_1⟩ := b1.c2
   have b1_z := b1.free
   have b1_l := b1.lt
   go_wp2_with fail
   refine (refLook_v (p := (a : Int)) (h.ext hx) hk).mono ?_
   rintro e2 w2 ⟨rv, rfl, hr, he⟩
   try clear b3_0 b3_1 b3_2 b3_3 b3_4 b3_5 b3_z b3_l b2_0 b2_1 b2_2 b2_3 b2_4 b2_5 b2_z b2_l b1_0 b1_1 b1_z b1_l
   have hx := ext_trans hx he
   have b1 := b1.ext he
   have b2 := b2.ext he
   have b3 := b3.ext he
   clear he
   obtain ⟨q, hq, hq6⟩ := look_how d (a : Int)
   have HS := Lib.hid (hows_step d a)
   have hlen := hows_len d a
   rw [hq] at HS ⊢
   have HQ := Lib.hid (repC_set (scHows d a) hq6)
   obtain ⟨hr0, hr1⟩ := rc_len (scHows d a) q
   have x0 := b3.cell q (repC_at (scHows d a) hq6)
   have xf := b3.free q
   have xl := b3.lt
   have hwr : IntKind.wrap .i64 (rc (scHows d a) q + 1) = rc (scHows d a) q + 1 := by rw [IntKind.wrap_i64]; omega
   have q0 : (0 : Int) ≤ (q : Int) := by omega
   have q6 : (q : Int) < 6 := by omega
   generalize rc (scHows d a) q = z at x0 HQ hr0 hr1 hwr
   rw [hlen] at hr1
   clear hlen hq
   obtain ⟨u2, rfl, hu2⟩ := hr
   obtain ⟨A2, n2, c2, rfl, _, _⟩ := hu2.form
   go_wp2_with fail
   refine ⟨⟨a + 1, by omega, rfl, by (repeat (with_reducible (first | assumption | refine Box.alloc ?_ _ | refine Box.setOther ?_ (by simp <;> omega) _))), by (repeat (with_reducible (first | assumption | refine Box.alloc ?_ _ | refine Box.setOther ?_ (by simp <;> omega) _))), ?_, by (repeat (with_reducible (first | assumption | exact Below.refl _ _ | refine Below.setCell ?_ (by simp <;> omega) _ | refine Below.alloc ?_ (by simp <;> omega) _ | refine Below.drew ?_ | refine below_drewN ?_ _)))⟩, ?_⟩
   ·rw [HS.out, ← HQ.out]
    exact (b3.set _ _).alloc _
   ·simp only [intOf]
    omega
  ·obtain rfl : a = 6 := by omega
   obtain ⟨b3_0, b3_1, b3_2, b3_3, b3_4, b3_5⟩ := b3.c6
   have b3_z := b3.free
   have b3_l := b3.lt
   obtain ⟨b2_0, b2_1, b2_2, b2_3, b2_4, b2_5⟩ := b2.c6
   have b2_z := b2.free
   have b2_l := b2.lt
   go_wp2_with fail
   ((try simp only [Exit.inBlock, Exit.then]); refine bodyPost_ret (v := ?_) ?resultOf rfl ?_; case resultOf => (rw [results_cell1 rfl]; go_simp; rfl))
   exact ⟨rfl, by (repeat (with_reducible (first | assumption | exact Below.refl _ _ | refine Below.setCell ?_ (by simp <;> omega) _ | refine Below.alloc ?_ (by simp <;> omega) _ | refine Below.drew ?_ | refine below_drewN ?_ _)))⟩
end Go.Proofs.Ythgdbblpbekieaa

