/- Walks: scref1.Insert. -/
import Derived.Test.YtmcgbdbhpnplmaaGreatIx1
namespace Go.Proofs.YtmcgbdbhpnplmaaGreat
open Go Go.RowKit
def insRest (done : Bool) (m : List Ent) (e : Ent) : List Ent := if done then m else iIns m e
theorem drop_ent {l : List Ent} {a : Nat} (ha : a < l.length) : l.drop a = l.getD a ⟨rZero, 0⟩ :: l.drop (a + 1) := by
 rw [List.drop_eq_getElem_cons ha, List.getD_eq_getElem?_getD, List.getElem?_eq_getElem ha]
 rfl
theorem EntV.mk {w : World} {base : Nat} {e : Ent} {u : Value} (h : ByT w base u e.rcd.data) : EntV w base (.agg #[.int .i64 e.rcd.kind, .int .i64 e.rcd.key, .int .i64 e.rcd.ver, u, .int .i64 e.pair]) e := ⟨u, rfl, h⟩
set_option maxRecDepth 100000 in
set_option maxHeartbeats 4000000 in
theorem refInsert_v {T : List TypeId} {base : Nat} {u ev : Value} {l : List Ent} {e : Ent} {w : World} (h : Row eEnt T w base u l) (hl : l.length ≤ 4096) (hbase : base ≤ w.heap.size) (hev : EntV w base ev e) :
  Calls Tryz.prog 64 #[u, ev] w fun e' w' => ∃ v', e' = .returned v' ∧ OwnRow eEnt w' w.heap.size base v' (iIns l e) ∧ Ext w w' := by
 obtain ⟨A, n, c, rfl, hc, hcm, HN⟩ := h.form
 obtain ⟨A0, n0, c0, rfl, _, hye⟩ := hev.at_
 have hn4 : n ≤ 4096 := by have := HN.out; omega
 clear hev
 unfold maxLen at hcm
 go_enter Tryz.func64, Tryz.ntmps64
 go_upto_region 4 with (fail)
 generalize hwn : World.alloc w _ = W
 have hx : Ext w W := by rw [← hwn]; exact ext_alloc _ _
 have b3 : Box W w.heap.size 54 #[.int .i64 e.rcd.kind, .int .i64 e.rcd.key, .int .i64 e.rcd.ver, .slice A0 n0 c0, .int .i64 e.pair] := by rw [← hwn]; exact Box.new _ _ _ rfl
 clear hwn
 obtain ⟨g3, hg3⟩ : ∃ g, g = w.heap.size := ⟨_, rfl⟩
 rw [show Box W w.heap.size 54 #[.int .i64 e.rcd.kind, .int .i64 e.rcd.key, .int .i64 e.rcd.ver, .slice A0 n0 c0, .int .i64 e.pair] ↔ Box W g3 54 #[.int .i64 e.rcd.kind, .int .i64 e.rcd.key, .int .i64 e.rcd.ver, .slice A0 n0 c0, .int .i64 e.pair] by rw [hg3]] at b3
 rw [← hg3]
 have l3 : w.heap.size ≤ g3 := by omega
 have g31 : g3 + 1 = w.heap.size + 1 := by omega
 clear hg3
 go_loopw [5, 6, 11] (fun v5 dn i wr => ∃ a : Nat, a ≤ n ∧ i = .int .i64 a ∧ ∃ out done, dn = .bool done ∧ OwnRow eEnt wr (g3 + 1) base v5 out ∧ Hid (iIns l e = out ++ insRest done (l.drop a) e) ∧ Hid (out.length ≤ a + (if done = true then 1 else 0)) ∧
  Box wr g3 54 #[.int .i64 e.rcd.kind, .int .i64 e.rcd.key, .int .i64 e.rcd.ver, .slice A0 n0 c0, .int .i64 e.pair] ∧ Ext w wr) (fun _ _ i _ => n - (intOf i).toNat)
 case atStart => exact ⟨0, by omega, rfl, [], false, rfl, OwnRow.nil _ _ _ _, by rw [List.drop_zero]; rfl, by simp [Hid], b3, hx⟩
 case round =>
  clear hx b3
  obtain ⟨a, ha, rfl, out, done, rfl, own, HI, HL, b3, hx⟩ := hrel
  have hz := hx.size
  by_cases hlt : a < n
  ·have e0 : (0 : Int) ≤ (a : Int) := by omega
   have e1 : (a : Int) < (n : Int) := by omega
   obtain ⟨b, o, u, rfl, hb, hu, hcell⟩ := h.ent_x hlt
   have hal : a < l.length := HN.out ▸ hlt
   have HD := Lib.hid (drop_ent hal)
   generalize l.getD a ⟨rZero, 0⟩ = x at hcell hu HD
   obtain ⟨A2, n2, c2, rfl, _, _⟩ := hu.form
   obtain ⟨c0_, c1, c2_, c3, c4⟩ := hcell _ hx
   have hb3 := b3.lt
   go_upto_region 6 with (fail)
   generalize hwn : World.alloc wr _ = w1
   have he : Ext wr w1 := by rw [← hwn]; exact ext_alloc _ _
   have b8 : Box w1 wr.heap.size 54 #[.int .i64 x.rcd.kind, .int .i64 x.rcd.key, .int .i64 x.rcd.ver, .slice A2 n2 c2, .int .i64 x.pair] := by rw [← hwn]; exact Box.new _ _ _ (by simp)
   clear hwn c0_ c1 c2_ c3 c4
   have hne8 := own_new own (Nat.le_refl _)
   have hx := ext_trans hx he
   have own := own.ext he
   have b3 := b3.ext he
   clear he
   have hu := hu.ext hx
   have hye := hye.ext hx
   cases done with
   | true =>
    have HL9 : Hid (out.length + 1 ≤ lim) := Lib.hid (by have := HL.out; rw [if_pos rfl] at this; rw [lim_def]; omega)
    obtain ⟨b8_0, b8_1, b8_2, b8_3, b8_4⟩ := b8.c5
    have b8_z := b8.free
    have b8_l := b8.lt
    go_wp2_with (at_builtin; (refine wpl_ent rfl (.tmp 26) (.tmp 28) rfl rfl (own.ext (ext_alloc _ _)) rfl (Sl.new _ _ _ _ 5 1 rfl (by unfold maxLen; omega) (Nat.lt_succ_self _)) (y := x) ⟨_, rfl, hu.ext (ext_alloc _ _)⟩ HL9.out (by rw [size_alloc]; have := hx.size; omega) (by omega) ?_; intro v7 w7 own7 hg7 hb7))
    have hx : Ext w w7 := (hx.alloc hx.size _).trans (hb7.mono (by omega))
    have b3 : Box w7 g3 54 #[.int .i64 e.rcd.kind, .int .i64 e.rcd.key, .int .i64 e.rcd.ver, .slice A0 n0 c0, .int .i64 e.pair] := (b3.alloc _).below hb7 (by omega)
    try clear b8_0 b8_1 b8_2 b8_3 b8_4 b8_z b8_l
    go_wp2_with fail
    refine ⟨⟨a + 1, by omega, rfl, out ++ [x], true, rfl, own7, ?_, ?_, b3, hx⟩, ?_⟩
    ·show _ = _
     rw [HI.out, HD.out]
     simp [insRest]
    ·have := HL.out
     show _ ≤ _
     rw [List.length_append]
     simp only [if_pos, List.length_cons, List.length_nil] at this ⊢
     omega
    ·simp only [intOf]
     omega
   | false =>
    have hL0 := HL.out
    rw [if_neg (by simp)] at hL0
    obtain ⟨b3_0, b3_1, b3_2, b3_3, b3_4⟩ := b3.c5
    have b3_z := b3.free
    have b3_l := b3.lt
    obtain ⟨b8_0, b8_1, b8_2, b8_3, b8_4⟩ := b8.c5
    have b8_z := b8.free
    have b8_l := b8.lt
    go_wp2_with fail
    refine (less_v (EntV.mk hye) (EntV.mk hu)).mono ?_
    rintro e2 w2 ⟨rfl, he⟩
    try clear b3_0 b3_1 b3_2 b3_3 b3_4 b3_z b3_l b8_0 b8_1 b8_2 b8_3 b8_4 b8_z b8_l
    have hx := ext_trans hx he
    have own := own.ext he
    have b3 := b3.ext he
    have b8 := b8.ext he
    have hu := hu.ext he
    have hye := hye.ext he
    clear he
    by_cases hle : eLt e x
    ·rw [decide_eq_true hle]
     have HE := Lib.hid hle
     have HL9 : Hid (out.length + 1 ≤ lim) := Lib.hid (by rw [lim_def]; omega)
     clear hle
     obtain ⟨b3_0, b3_1, b3_2, b3_3, b3_4⟩ := b3.c5
     have b3_z := b3.free
     have b3_l := b3.lt
     go_upto_region 9 with (at_builtin; (refine wpl_ent rfl (.tmp 22) (.tmp 24) rfl rfl (own.ext (ext_alloc _ _)) rfl (Sl.new _ _ _ _ 5 1 rfl (by unfold maxLen; omega) (Nat.lt_succ_self _)) (y := e) ⟨_, rfl, hye.ext (ext_alloc _ _)⟩ HL9.out (by rw [size_alloc]; have := hx.size; omega) (by omega) ?_; intro v7 w7 own7 hg7 hb7))
     have b3 : Box w7 g3 54 #[.int .i64 e.rcd.kind, .int .i64 e.rcd.key, .int .i64 e.rcd.ver, .slice A0 n0 c0, .int .i64 e.pair] := (b3.alloc _).below hb7 (by omega)
     have b8 : Box w7 wr.heap.size 54 #[.int .i64 x.rcd.kind, .int .i64 x.rcd.key, .int .i64 x.rcd.ver, .slice A2 n2 c2, .int .i64 x.pair] := (hg7.block _ (b8.alloc _).lt hne8).trans (b8.alloc _)
     have hu := (hu.ext (ext_alloc _ _)).kept (Kept.app (T := []) (own.ext (ext_alloc _ _)).choose_spec.2 hg7 (by decide) (by omega))
     have hx : Ext w w7 := (hx.alloc hx.size _).trans (hb7.mono (by omega))
     try clear b3_0 b3_1 b3_2 b3_3 b3_4 b3_z b3_l
     have hle := HL9.out
     have HL9 : Hid ((out ++ [e]).length + 1 ≤ lim) := Lib.hid (by rw [lim_def, List.length_append, List.length_cons, List.length_nil]; omega)
     have own := own7
     clear own7 hb7 hg7
     obtain ⟨b8_0, b8_1, b8_2, b8_3, b8_4⟩ := b8.c5
     have b8_z := b8.free
     have b8_l := b8.lt
     go_wp2_with (at_builtin; (refine wpl_ent rfl (.tmp 26) (.tmp 28) rfl rfl (own.ext (ext_alloc _ _)) rfl (Sl.new _ _ _ _ 5 1 rfl (by unfold maxLen; omega) (Nat.lt_succ_self _)) (y := x) ⟨_, rfl, hu.ext (ext_alloc _ _)⟩ HL9.out (by rw [size_alloc]; have := hx.size; omega) (by omega) ?_; intro v7 w7 own7 hg7 hb7))
     have hx : Ext w w7 := (hx.alloc hx.size _).trans (hb7.mono (by omega))
     have b3 : Box w7 g3 54 #[.int .i64 e.rcd.kind, .int .i64 e.rcd.key, .int .i64 e.rcd.ver, .slice A0 n0 c0, .int .i64 e.pair] := (b3.alloc _).below hb7 (by omega)
     try clear b8_0 b8_1 b8_2 b8_3 b8_4 b8_z b8_l
     go_wp2_with fail
     refine ⟨⟨a + 1, by omega, rfl, out ++ [e] ++ [x], true, rfl, own7, ?_, ?_, b3, hx⟩, ?_⟩
     ·show _ = _
      rw [HI.out, HD.out]
      simp [insRest, iIns, HE.out]
     ·show _ ≤ _
      rw [List.length_append, List.length_append, if_pos rfl]
      simp only [List.length_cons, List.length_nil]
      omega
     ·simp only [intOf]
      omega
    ·rw [decide_eq_false hle]
     have HE := Lib.hid hle
     have HL9 : Hid (out.length + 1 ≤ lim) := Lib.hid (by rw [lim_def]; omega)
     clear hle
     obtain ⟨b8_0, b8_1, b8_2, b8_3, b8_4⟩ := b8.c5
     have b8_z := b8.free
     have b8_l := b8.lt
     go_wp2_with (at_builtin; (refine wpl_ent rfl (.tmp 26) (.tmp 28) rfl rfl (own.ext (ext_alloc _ _)) rfl (Sl.new _ _ _ _ 5 1 rfl (by unfold maxLen; omega) (Nat.lt_succ_self _)) (y := x) ⟨_, rfl, hu.ext (ext_alloc _ _)⟩ HL9.out (by rw [size_alloc]; have := hx.size; omega) (by omega) ?_; intro v7 w7 own7 hg7 hb7))
     have hx : Ext w w7 := (hx.alloc hx.size _).trans (hb7.mono (by omega))
     have b3 : Box w7 g3 54 #[.int .i64 e.rcd.kind, .int .i64 e.rcd.key, .int .i64 e.rcd.ver, .slice A0 n0 c0, .int .i64 e.pair] := (b3.alloc _).below hb7 (by omega)
     try clear b8_0 b8_1 b8_2 b8_3 b8_4 b8_z b8_l
     go_wp2_with fail
     refine ⟨⟨a + 1, by omega, rfl, out ++ [x], false, rfl, own7, ?_, ?_, b3, hx⟩, ?_⟩
     ·show _ = _
      rw [HI.out, HD.out]
      simp [insRest, iIns, HE.out]
     ·show _ ≤ _
      rw [List.length_append, if_neg (by simp)]
      simp only [List.length_cons, List.length_nil]
      omega
     ·simp only [intOf]
      omega
  ·obtain rfl : a = n := by omega
   have hd0 : l.drop a = [] := List.drop_eq_nil_of_le (by rw [HN.out]; exact Nat.le_refl _)
   cases done with
   | true =>
    have hi := HI.out
    rw [hd0, insRest, if_pos rfl, List.append_nil] at hi
    rw [← hi] at own
    clear hi HI
    go_wp2_with fail
    go_ret
    exact ⟨_, rfl, own.more (rb' := w.heap.size) (by omega) (Nat.le_refl _), hx⟩
   | false =>
    have hi := HI.out
    rw [hd0, insRest, if_neg (by simp)] at hi
    have hL0 := HL.out
    rw [if_neg (by simp)] at hL0
    have HL9 : Hid (out.length + 1 ≤ lim) := Lib.hid (by rw [lim_def]; omega)
    have hye := hye.ext hx
    have HI' := Lib.hid hi
    clear hi hd0
    obtain ⟨b3_0, b3_1, b3_2, b3_3, b3_4⟩ := b3.c5
    have b3_z := b3.free
    have b3_l := b3.lt
    go_wp2_with (at_builtin; (refine wpl_ent rfl (.tmp 33) (.tmp 35) rfl rfl (own.ext (ext_alloc _ _)) rfl (Sl.new _ _ _ _ 5 1 rfl (by unfold maxLen; omega) (Nat.lt_succ_self _)) (y := e) ⟨_, rfl, hye.ext (ext_alloc _ _)⟩ HL9.out (by rw [size_alloc]; have := hx.size; omega) (by omega) ?_; intro v7 w7 own7 hg7 hb7))
    have hx : Ext w w7 := (hx.alloc hx.size _).trans (hb7.mono (by omega))
    have b3 : Box w7 g3 54 #[.int .i64 e.rcd.kind, .int .i64 e.rcd.key, .int .i64 e.rcd.ver, .slice A0 n0 c0, .int .i64 e.pair] := (b3.alloc _).below hb7 (by omega)
    try clear b3_0 b3_1 b3_2 b3_3 b3_4 b3_z b3_l
    rw [show out ++ [e] = iIns l e from HI'.out.symm] at own7
    go_wp2_with fail
    go_ret
    exact ⟨_, rfl, own7.more (rb' := w.heap.size) (by omega) (Nat.le_refl _), hx⟩
end Go.Proofs.YtmcgbdbhpnplmaaGreat
