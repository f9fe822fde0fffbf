/- The statement MayFew: the walk of the law. -/
import Derived.Test.YtmcgbdbhpnplmaaGreatAlive12
namespace Go.Proofs.YtmcgbdbhpnplmaaGreat
open Go Go.RowKit
theorem right_parts {l : List Rec} (h : mRight l = true) : (∀ r ∈ l, rOne r = true) ∧ l.length ≤ 4096 := by
 unfold mRight at h
 rw [Bool.and_eq_true, List.all_eq_true] at h
 have := of_decide_eq_true h.2
 exact ⟨h.1, by omega⟩
set_option maxRecDepth 100000 in
set_option maxHeartbeats 4000000 in
theorem mayFew_law (w : World) {v xv : Value} {l : List Rec} {x : Stp} (hl : Row eRec [] w w.heap.size v l) (hs : StpV w w.heap.size xv x) :
  Calls Tryz.prog 11 #[v, xv] w fun e w' => e = .returned (.bool true) ∧ Ext w w' := by
 obtain ⟨A, n, c, rfl, _, _, _⟩ := hl.form
 obtain ⟨A0, n0, c0, rfl, _, _⟩ := hs.at_
 go_enter Tryz.func11, Tryz.ntmps11
 go_upto_region 1 with (fail)
 generalize hwn : World.alloc w _ = w0
 have hx : Ext w w0 := by rw [← hwn]; exact ext_alloc _ _
 have b3 : Box w0 w.heap.size 67 #[.int .i64 x.kind, .int .i64 x.n, .int .i64 x.m, .int .i64 x.deed.kind, .int .i64 x.deed.key, .int .i64 x.deed.n, .slice A0 n0 c0] := by rw [← hwn]; exact Box.new _ _ _ rfl
 clear hwn
 have hl := hl.ext hx
 have hs := hs.ext hx
 obtain ⟨gd, hgd⟩ : ∃ g, g = w.heap.size := ⟨_, rfl⟩
 rw [show Box w0 w.heap.size 67 #[.int .i64 x.kind, .int .i64 x.n, .int .i64 x.m, .int .i64 x.deed.kind, .int .i64 x.deed.key, .int .i64 x.deed.n, .slice A0 n0 c0] ↔ Box w0 gd 67 #[.int .i64 x.kind, .int .i64 x.n, .int .i64 x.m, .int .i64 x.deed.kind, .int .i64 x.deed.key, .int .i64 x.deed.n, .slice A0 n0 c0] by rw [hgd]] at b3
 rw [← hgd]
 clear hgd
 go_wp2_with fail
 refine (alive12_w _).mono ?_
 rintro e0 w1 ⟨rfl, he⟩
 have hx := ext_trans hx he
 have hl := hl.ext he
 have hs := hs.ext he
 have b3 := b3.ext he
 clear he
 go_wp2_with fail
 refine (rightRecords_v hl).mono ?_
 rintro e1 w2 ⟨rfl, he⟩
 have hx := ext_trans hx he
 have hl := hl.ext he
 have hs := hs.ext he
 have b3 := b3.ext he
 clear he
 cases hr : mRight l with
 | false =>
  clear hr
  go_wp2_with fail
  go_ret
  exact ⟨rfl, hx⟩
 | true =>
  have HR := Lib.hid (right_parts hr)
  clear hr
  obtain ⟨b3_0, b3_1, b3_2, b3_3, b3_4, b3_5, b3_6⟩ := b3.c7
  have b3_z := b3.free
  have b3_l := b3.lt
  go_wp2_with fail
  refine (mayLists_v hl HR.out.1 HR.out.2 hs).mono ?_
  rintro e3 w3 ⟨v3, rfl, R3, he⟩
  try clear b3_0 b3_1 b3_2 b3_3 b3_4 b3_5 b3_6 b3_z b3_l
  have hx := ext_trans hx he
  have hl := hl.ext he
  have b3 := b3.ext he
  clear he
  clear hs
  rcases may_few l x with ⟨a, b, e, hk, ha, hs⟩ | ⟨a, e, hk⟩
  ·have HS := Lib.hid hs
   have HA := Lib.hid ha
   have qk : (x.kind == 2) = true := by simpa using hk
   rw [e] at R3
   clear e hk ha hs
   obtain ⟨A3, n3, c3, rfl, _, _, HN3⟩ := R3.form
   obtain rfl : n3 = 2 := HN3.out
   clear HN3
   obtain ⟨g4, o4, u4, rfl, hg4, c4, r4⟩ := R3.at_ (i := 0) (by omega)
   obtain ⟨g5, o5, u5, e5, hg5, c5, r5⟩ := R3.at_ (i := 1) (by omega)
   obtain ⟨rfl, rfl⟩ : g4 = g5 ∧ o4 = o5 := by simpa using e5
   simp only [Nat.add_zero, List.getD_cons_zero, List.getD_cons_succ] at c4 c5 r4 r5
   obtain ⟨A4, n4, c4', rfl, _, _, _⟩ := r4.form
   obtain ⟨A5, n5, c5', rfl, _, _, _⟩ := r5.form
   clear R3 e5
   obtain ⟨b3_0, b3_1, b3_2, b3_3, b3_4, b3_5, b3_6⟩ := b3.c7
   have b3_z := b3.free
   have b3_l := b3.lt
   go_wp2_with fail
   refine (rSameRecs_v r4 hl).mono ?_
   rintro e6 w6 ⟨rfl, he⟩
   try clear b3_0 b3_1 b3_2 b3_3 b3_4 b3_5 b3_6 b3_z b3_l
   rw [HA.out, mSame_refl]
   have c5 := (he.cell (p := ⟨g4, o4 + 1, none⟩) hg4).trans c5
   have r5 := r5.ext he
   have hx := ext_trans hx he
   have hl := hl.ext he
   have b3 := b3.ext he
   clear he c4 r4 hg4 hg5
   go_wp2_with fail
   refine (rSameRecs_v r5 hl).mono ?_
   rintro e7 w7 ⟨rfl, he⟩
   rw [HS.out]
   have hx := ext_trans hx he
   clear he
   go_wp2_with fail
   go_ret
   exact ⟨rfl, hx⟩
  ·rw [e] at R3
   obtain ⟨A3, n3, c3, rfl, _, _, HN3⟩ := R3.form
   obtain rfl : n3 = 1 := HN3.out
   clear HN3 e
   by_cases h1 : x.kind = 1
   ·have qk : (x.kind == 1) = true := by simpa using h1
    clear h1 hk R3
    obtain ⟨b3_0, b3_1, b3_2, b3_3, b3_4, b3_5, b3_6⟩ := b3.c7
    have b3_z := b3.free
    have b3_l := b3.lt
    go_wp2_with fail
    try clear b3_0 b3_1 b3_2 b3_3 b3_4 b3_5 b3_6 b3_z b3_l
    go_ret
    exact ⟨rfl, hx⟩
   ·have qk : (x.kind == 1) = false := by simpa using h1
    have HA := Lib.hid (hk.resolve_left h1)
    clear h1 hk
    obtain ⟨g4, o4, u4, rfl, hg4, c4, r4⟩ := R3.at_ (i := 0) (by omega)
    simp only [Nat.add_zero, List.getD_cons_zero] at c4 r4
    obtain ⟨A4, n4, c4', rfl, _, _, _⟩ := r4.form
    clear R3
    obtain ⟨b3_0, b3_1, b3_2, b3_3, b3_4, b3_5, b3_6⟩ := b3.c7
    have b3_z := b3.free
    have b3_l := b3.lt
    go_wp2_with fail
    refine (rSameRecs_v r4 hl).mono ?_
    rintro e6 w6 ⟨rfl, he⟩
    try clear b3_0 b3_1 b3_2 b3_3 b3_4 b3_5 b3_6 b3_z b3_l
    rw [HA.out, mSame_refl]
    have hx := ext_trans hx he
    clear he
    go_wp2_with fail
    go_ret
    exact ⟨rfl, hx⟩
end Go.Proofs.YtmcgbdbhpnplmaaGreat
