/- Walks: scref6.Twice. -/
import Derived.Test.YthgdbblpbekieaaFs1
namespace Go.Proofs.Ythgdbblpbekieaa
open Go Go.RowKit

set_option maxRecDepth 100000 in
set_option maxHeartbeats 4000000 in
theorem refTwice_v {T : List TypeId} {base : Nat} {v : Value} {d : Dsk} {w : World} (h : DskV T w base v d) (hk : DskOk d) :
  Calls Try.prog 79 #[v] w fun e w' => ∃ v', e = .returned v' ∧ OwnRow eInt w' w.heap.size 0 v' (tTo d 6) ∧ Ext w w' := by
 obtain ⟨A, n, c, E, m, e, rfl, HN, HM, hb, hl, hnc, hme⟩ := h.form
 clear hb hl HM HN
 go_enter Try.func79, Try.ntmps79
 go_upto_region 3 with (fail)
 generalize hwn : World.alloc w (.cells _ _) = w1
 have hx : Ext w w1 := by rw [← hwn]; exact ext_alloc _ _
 have b1 : Box w1 w.heap.size 42 #[.slice A n c, .slice E m e] := by rw [← hwn]; exact Box.new _ _ _ rfl
 have hz1 : w1.heap.size = w.heap.size + 1 := by rw [← hwn, size_alloc]
 clear hwn
 obtain ⟨g1, hg1⟩ : ∃ g, g = w.heap.size := ⟨_, rfl⟩
 rw [← hg1]
 rw [show Box w1 w.heap.size 42 #[.slice A n c, .slice E m e] ↔ Box w1 g1 42 #[.slice A n c, .slice E m e] by rw [hg1]] at b1
 have hg1z : g1 + 1 = w1.heap.size := by omega
 have HG := Lib.hid hg1z
 have hgw : w.heap.size ≤ g1 := by omega
 clear hg1 hz1 hg1z
 go_loopw [3, 11] (fun v3 i wr => ∃ a : Nat, a ≤ 6 ∧ i = .int .i64 a ∧ OwnRow eInt wr (g1 + 1) 0 v3 (tTo d a) ∧ Box wr g1 42 #[.slice A n c, .slice E m e] ∧ Ext w wr) (fun _ i _ => 6 - (intOf i).toNat)
 case atStart => exact ⟨0, by omega, rfl, OwnRow.nil _ _ _ _, b1, hx⟩
 case round =>
  clear b1 hx
  obtain ⟨a, ha, rfl, own, b1, hx⟩ := hrel
  obtain ⟨wo, rfl⟩ : ∃ wo : World, wo = wr := ⟨_, rfl⟩
  have hz := hx.size
  have lb1 := b1.lt
  by_cases hlt : a < 6
  ·have e1 : (a : Int) < 6 := by omega
   obtain ⟨b1_0, b1_1⟩ := b1.c2
   have b1_z := b1.free
   have b1_l := b1.lt
   go_wp2_with fail
   refine (refLook_v (p := (a : Int)) (h.ext hx) hk).mono ?_
   rintro e2 w2 ⟨rv, rfl, hr, he⟩
   try clear b1_0 b1_1 b1_z b1_l
   have hx := ext_trans hx he
   have own := own.ext he
   have b1 := b1.ext he
   clear he
   obtain ⟨how, hhow⟩ : ∃ x, (pLook d (a : Int)).1 = x := ⟨_, rfl⟩
   obtain ⟨r, hr'⟩ : ∃ x, (pLook d (a : Int)).2 = x := ⟨_, rfl⟩
   have hst := show tTo d (a + 1) = if (pLook d a).2.kind ≠ 1 ∧ hadB d a (pLook d a).2.ver = true then tTo d a ++ [(a : Int)] else tTo d a from rfl
   rw [hhow]
   rw [hr'] at hr hst
   have HST := Lib.hid hst
   clear hhow hr' hst
   obtain ⟨u2, rfl, hu2⟩ := hr
   obtain ⟨A2, n2, c2, rfl, _, _⟩ := hu2.form
   go_upto_region 6 with (fail)
   generalize hwn : World.alloc w2 _ = w3
   have he : Ext w2 w3 := by rw [← hwn]; exact ext_alloc _ _
   have b6 : Box w3 w2.heap.size 30 #[.int .i64 r.kind, .int .i64 r.key, .int .i64 r.ver, .slice A2 n2 c2] := by rw [← hwn]; exact Box.new _ _ _ (by simp)
   clear hwn
   have hx := ext_trans hx he
   have own := own.ext he
   have b1 := b1.ext he
   clear he
   obtain ⟨g6, hg6⟩ : ∃ g, g = w2.heap.size := ⟨_, rfl⟩
   rw [← hg6] at b6 ⊢
   clear hg6
   go_wp2_with fail
   go_loopw [7, 21] (fun vb i wr => ∃ b : Nat, b ≤ a ∧ i = .int .i64 b ∧ ∃ q, vb = .bool q ∧ Hid (q = hadB d b r.ver) ∧ Box wr g1 42 #[.slice A n c, .slice E m e] ∧ Box wr g6 30 #[.int .i64 r.kind, .int .i64 r.key, .int .i64 r.ver, .slice A2 n2 c2] ∧ Ext w3 wr) (fun _ i _ => a - (intOf i).toNat)
   case atStart => exact ⟨0, by omega, rfl, false, rfl, rfl, b1, b6, Below.refl _ _⟩
   case round =>
    clear b1 b6
    obtain ⟨b, hb, rfl, q, rfl, HB, b1, b6, hxd⟩ := hrel
    by_cases hlb : b < a
    ·have e2 : (b : Int) < (a : Int) := by omega
     obtain ⟨b1_0, b1_1⟩ := b1.c2
     have b1_z := b1.free
     have b1_l := b1.lt
     go_wp2_with fail
     refine (refLook_v (p := (b : Int)) (h.ext (ext_trans hx hxd)) hk).mono ?_
     rintro e4 w4 ⟨rv, rfl, hr, he⟩
     try clear b1_0 b1_1 b1_z b1_l
     have hxd := ext_trans hxd he
     have b1 := b1.ext he
     have b6 := b6.ext he
     clear he
     obtain ⟨how2, hhow⟩ : ∃ x, (pLook d (b : Int)).1 = x := ⟨_, rfl⟩
     obtain ⟨s, hr'⟩ : ∃ x, (pLook d (b : Int)).2 = x := ⟨_, rfl⟩
     have HS := Lib.hid (congrFun (had_step d b) r.ver)
     rw [hhow]
     rw [hr'] at hr HS
     rw [← HB.out] at HS
     clear hhow hr' HB
     obtain ⟨u4, rfl, hu4⟩ := hr
     obtain ⟨A4, n4, c4, rfl, _, _⟩ := hu4.form
     go_upto_region 11 with (fail)
     generalize hwn : World.alloc w4 _ = w5
     have he : Ext w4 w5 := by rw [← hwn]; exact ext_alloc _ _
     have b10 : Box w5 w4.heap.size 30 #[.int .i64 s.kind, .int .i64 s.key, .int .i64 s.ver, .slice A4 n4 c4] := by rw [← hwn]; exact Box.new _ _ _ (by simp)
     clear hwn
     have hxd := ext_trans hxd he
     have b1 := b1.ext he
     have b6 := b6.ext he
     clear he
     cases q with
     | true =>
      have HB2 : Hid (true = hadB d (b + 1) r.ver) := Lib.hid (by rw [HS.out]; rfl)
      go_wp2_with fail
      refine ⟨⟨b + 1, by omega, rfl, _, rfl, HB2, b1, b6, hxd⟩, ?_⟩
      simp only [intOf]
      omega
     | false =>
      by_cases k1 : s.kind = 1
      ·have q1 : (s.kind != 1) = false := by simpa using k1
       have HB2 : Hid (false = hadB d (b + 1) r.ver) := Lib.hid (by rw [HS.out]; simp [k1])
       clear k1
       obtain ⟨b10_0, b10_1, b10_2, b10_3⟩ := b10.c4
       have b10_z := b10.free
       have b10_l := b10.lt
       go_wp2_with fail
       try clear b10_0 b10_1 b10_2 b10_3 b10_z b10_l
       refine ⟨⟨b + 1, by omega, rfl, _, rfl, HB2, b1, b6, hxd⟩, ?_⟩
       simp only [intOf]
       omega
      ·have q1 : (s.kind != 1) = true := by simpa using k1
       by_cases k2 : s.ver = r.ver
       ·have q2 : (s.ver == r.ver) = true := by simpa using k2
        have HB2 : Hid (true = hadB d (b + 1) r.ver) := Lib.hid (by rw [HS.out]; simp [k1, k2])
        clear k1 k2
        obtain ⟨b10_0, b10_1, b10_2, b10_3⟩ := b10.c4
        have b10_z := b10.free
        have b10_l := b10.lt
        obtain ⟨b6_0, b6_1, b6_2, b6_3⟩ := b6.c4
        have b6_z := b6.free
        have b6_l := b6.lt
        go_wp2_with fail
        try clear b10_0 b10_1 b10_2 b10_3 b10_z b10_l b6_0 b6_1 b6_2 b6_3 b6_z b6_l
        refine ⟨⟨b + 1, by omega, rfl, _, rfl, HB2, b1, b6, hxd⟩, ?_⟩
        simp only [intOf]
        omega
       ·have q2 : (s.ver == r.ver) = false := by simpa using k2
        have HB2 : Hid (false = hadB d (b + 1) r.ver) := Lib.hid (by rw [HS.out]; simp [k2])
        clear k1 k2
        obtain ⟨b10_0, b10_1, b10_2, b10_3⟩ := b10.c4
        have b10_z := b10.free
        have b10_l := b10.lt
        obtain ⟨b6_0, b6_1, b6_2, b6_3⟩ := b6.c4
        have b6_z := b6.free
        have b6_l := b6.lt
        go_wp2_with fail
        try clear b10_0 b10_1 b10_2 b10_3 b10_z b10_l b6_0 b6_1 b6_2 b6_3 b6_z b6_l
        refine ⟨⟨b + 1, by omega, rfl, _, rfl, HB2, b1, b6, hxd⟩, ?_⟩
        simp only [intOf]
        omega
    ·obtain rfl : b = a := by omega
     have hx := ext_trans hx hxd
     have own := own.ext hxd
     have lb1 := b1.lt
     by_cases k1 : r.kind = 1
     ·have q1 : (r.kind != 1) = false := by simpa using k1
      have HT2 := Lib.hid (show tTo d (b + 1) = tTo d b by rw [HST.out, if_neg (fun h => h.1 k1)])
      clear k1
      obtain ⟨b6_0, b6_1, b6_2, b6_3⟩ := b6.c4
      have b6_z := b6.free
      have b6_l := b6.lt
      go_wp2_with fail
      refine ⟨⟨b + 1, by omega, rfl, by rw [HT2.out]; exact own, b1, hx⟩, ?_⟩
      simp only [intOf]
      omega
     ·have q1 : (r.kind != 1) = true := by simpa using k1
      cases q with
      | false =>
       have HT2 := Lib.hid (show tTo d (b + 1) = tTo d b by rw [HST.out, if_neg (fun h => by rw [← HB.out] at h; exact absurd h.2 (by simp))])
       clear k1
       obtain ⟨b6_0, b6_1, b6_2, b6_3⟩ := b6.c4
       have b6_z := b6.free
       have b6_l := b6.lt
       go_wp2_with fail
       refine ⟨⟨b + 1, by omega, rfl, by rw [HT2.out]; exact own, b1, hx⟩, ?_⟩
       simp only [intOf]
       omega
      | true =>
       have HT2 := Lib.hid (show tTo d (b + 1) = tTo d b ++ [(b : Int)] by rw [HST.out, if_pos ⟨k1, HB.out.symm⟩])
       have HL9 : Hid ((tTo d b).length + 1 ≤ lim) := Lib.hid (by have := tTo_len d b; rw [lim_def]; omega)
       clear k1
       obtain ⟨b6_0, b6_1, b6_2, b6_3⟩ := b6.c4
       have b6_z := b6.free
       have b6_l := b6.lt
       go_wp2_with (at_builtin; (refine wpl_int rfl (.tmp 50) (.tmp 52) rfl rfl (own.ext (ext_alloc _ _)) rfl (Sl.new _ _ _ _ 1 1 rfl (by unfold maxLen; omega) (Nat.lt_succ_self _)) (y := (b : Int)) rfl HL9.out (by rw [size_alloc]; omega) (by omega) ?_; intro v7 w7 own7 hg7 hb7))
       refine ⟨⟨b + 1, by omega, rfl, by rw [HT2.out]; exact own7, (b1.alloc _).below hb7 (by omega), (hx.alloc hx.size _).trans (hb7.mono (by omega))⟩, ?_⟩
       simp only [intOf]
       omega
  ·obtain rfl : a = 6 := by omega
   go_wp2_with fail
   go_ret
   exact ⟨_, rfl, own.more (rb' := w.heap.size) (by omega) (Nat.le_refl _), hx⟩
end Go.Proofs.Ythgdbblpbekieaa

