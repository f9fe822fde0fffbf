/- Walks: store.List, scref6.List. -/
import Derived.Test.YtdmnmfnmaccmoaaGreatDoorSt1
import Derived.Test.YtdmnmfnmaccmoaaGreatDoorFsA
import Derived.Test.YtdmnmfnmaccmoaaGreatDoorG5
namespace Go.Proofs.YtdmnmfnmaccmoaaGreatDoor
open Go Go.RowKit
def lTo (s : Sto) (st mo : Int) (a : Nat) : List Int := ((s.index.map fun e => e.rcd.key).take a).foldl (lStep (sOk s) st mo) []
theorem lTo_step {s : Sto} (st mo : Int) {a : Nat} (ha : a < s.index.length) : lTo s st mo (a + 1) = lStep (sOk s) st mo (lTo s st mo a) (s.index.getD a ⟨rZero, 0⟩).rcd.key := by
 unfold lTo
 rw [take_succ_getD (0 : Int) _ a (by rw [List.length_map]; exact ha), List.foldl_append, getD_map _ (⟨rZero, 0⟩ : Ent) _ _ _ ha]
 rfl
theorem lTo_all (s : Sto) (st mo : Int) : lTo s st mo s.index.length = sList s st mo := by
 unfold lTo sList
 rw [List.take_of_length_le (by rw [List.length_map]; exact Nat.le_refl _)]
theorem lTo_len (s : Sto) (st mo : Int) : ∀ a, (lTo s st mo a).length ≤ a
 | 0 => Nat.le_refl _
 | a + 1 => by
  have ih := lTo_len s st mo a
  rcases Nat.lt_or_ge a s.index.length with ha | ha
  ·rw [lTo_step st mo ha]
   unfold lStep
   split
   ·omega
   ·split
    ·rw [List.length_append]; show _ + 1 ≤ _; omega
    ·omega
  ·have e : lTo s st mo (a + 1) = lTo s st mo a := by
    unfold lTo
    rw [List.take_of_length_le (by rw [List.length_map]; omega), List.take_of_length_le (by rw [List.length_map]; omega)]
   rw [e]
   omega
set_option maxRecDepth 100000 in
set_option maxHeartbeats 4000000 in
theorem stoList_v {T : List TypeId} {base : Nat} {v : Value} {s : Sto} {st mo : Int} {w : World} (h : StoV T w base v s) (hf : StoF s) (hr : iRight s.index) :
  Calls Tryz.prog 15 #[v, .int .i64 st, .int .i64 mo] w fun e w' => ∃ v', e = .returned v' ∧ OwnRow eInt w' w.heap.size 0 v' (sList s st mo) ∧ Ext w w' := by
 have h := h.all (T' := tS)
 obtain ⟨A, n, c, E, m, e, F, k, f, rfl, _, hi, _, _, HK, _, _, hkf⟩ := h.form
 obtain ⟨_, _, _, e0, _, hfm, _⟩ := hi.form
 cases e0
 unfold maxLen at hfm
 have HF := Lib.hid hf
 have HR := Lib.hid hr
 clear hf hr
 go_enter Tryz.func15, Tryz.ntmps15
 go_upto_region 2 with (fail)
 generalize hwn : World.alloc w _ = w1
 have hx : Ext w w1 := by rw [← hwn]; (repeat (with_reducible (first | assumption | exact Below.refl _ _ | refine Below.setCell ?_ (by simp <;> omega) _ | refine Below.alloc ?_ (by simp <;> omega) _ | refine Below.drew ?_ | refine below_drewN ?_ _)))
 have b3 : Box w1 w.heap.size 30 #[.slice A n c, .slice E m e, .slice F k f, .int .i64 s.next] := by rw [← hwn]; exact Box.new _ _ _ rfl
 clear hwn
 have h := h.ext hx
 have hi := hi.ext hx
 have hz1 := hx.size
 obtain ⟨b3_0, b3_1, b3_2, b3_3⟩ := b3.c4
 have b3_z := b3.free
 have b3_l := b3.lt
 go_upto_region 3 with (fail)
 try clear b3_0 b3_1 b3_2 b3_3 b3_z b3_l
 go_loopw [7, 16] (fun v7 i wr => ∃ a : Nat, a ≤ k ∧ i = .int .i64 a ∧ OwnRow eInt wr w1.heap.size 0 v7 (lTo s st mo a) ∧ Ext w1 wr) (fun _ i _ => k - (intOf i).toNat)
 case atStart => exact ⟨0, by omega, rfl, OwnRow.nil _ _ _ _, Below.refl _ _⟩
 case round =>
  obtain ⟨a, ha, rfl, own, hxd⟩ := hrel
  have hz := hxd.size
  by_cases hlt : a < k
  ·have i0 : (0 : Int) ≤ (a : Int) := by omega
   have i1 : (a : Int) < (k : Int) := by omega
   have hal : a < s.index.length := HK.out ▸ hlt
   obtain ⟨g1, o1, u1, rfl, hg1, hu1, f1⟩ := hi.ent_x hlt
   have HST := Lib.hid (lTo_step st mo hal)
   have HLE := Lib.hid (lTo_len s st mo a)
   have HAK := Lib.hid (show a ≤ 4096 by have := HF.out.len; omega)
   have b3 := b3.ext hxd
   clear hal
   generalize s.index.getD a ⟨rZero, 0⟩ = x at f1 hu1 HST
   obtain ⟨AX, nx, cx, rfl, _, _⟩ := hu1.form
   obtain ⟨x0, x1, x2, x3, x4⟩ := f1 _ hxd
   clear f1 hg1 hu1
   generalize lTo s st mo a = out at own HST HLE
   obtain ⟨B, mm, cb, rfl, hmc, hcm, HM⟩ := own.form
   unfold maxLen at hcm
   go_upto_region 5 with (fail)
   generalize hwn : World.alloc wr _ = w3
   have he : Ext wr w3 := by rw [← hwn]; exact ext_alloc _ _
   have b9 : Box w3 wr.heap.size 78 (cE x (.slice AX nx cx)) := by rw [← hwn]; exact Box.new _ _ _ (by simp)
   clear hwn x0 x1 x2 x3 x4
   have hxd := ext_trans hxd he
   have own := own.ext he
   have b3 := b3.ext he
   clear he
   by_cases h1 : x.rcd.key < st
   ·have q1 : decide (x.rcd.key < st) = true := by simpa using h1
    have HT : Hid (lTo s st mo (a + 1) = out) := Lib.hid (by rw [HST.out]; unfold lStep; rw [if_pos (.inl h1)])
    clear h1
    obtain ⟨b9_0, b9_1, b9_2, b9_3, b9_4⟩ := b9.c5
    have b9_z := b9.free
    have b9_l := b9.lt
    go_wp2_with fail
    refine ⟨⟨a + 1, by omega, rfl, by rw [HT.out]; exact own, hxd⟩, ?_⟩
    simp only [intOf]
    omega
   ·have q1 : decide (x.rcd.key < st) = false := by simpa using h1
    by_cases h2 : mo ≤ (mm : Int)
    ·have q2 : decide (mo ≤ (mm : Int)) = true := by simpa using h2
     have HT : Hid (lTo s st mo (a + 1) = out) := Lib.hid (by rw [HST.out]; unfold lStep; rw [if_pos (.inr (.inl (by rw [← HM.out]; exact h2)))])
     clear h1 h2
     obtain ⟨b9_0, b9_1, b9_2, b9_3, b9_4⟩ := b9.c5
     have b9_z := b9.free
     have b9_l := b9.lt
     go_wp2_with fail
     refine ⟨⟨a + 1, by omega, rfl, by rw [HT.out]; exact own, hxd⟩, ?_⟩
     simp only [intOf]
     omega
    ·have q2 : decide (mo ≤ (mm : Int)) = false := by simpa using h2
     by_cases h3 : 0 < mm
     ·have q3 : decide (0 < mm) = true := by simpa using h3
      have q3i : decide ((0 : Int) < (mm : Int)) = true := by simpa using h3
      obtain ⟨p, hp⟩ : ∃ p, mm = p + 1 := ⟨mm - 1, by omega⟩
      have hwr : IntKind.wrap .i64 ((mm : Int) - 1) = (p : Int) := by rw [IntKind.wrap_i64]; omega
      have j0 : (0 : Int) ≤ (p : Int) := by omega
      have j1 : (p : Int) < (mm : Int) := by omega
      have rw3 := own.row (T := tS ++ [3]) (base := 0) (base' := 0) (by decide) (Nat.le_refl _)
      obtain ⟨g7, o7, rfl, hg7, c7⟩ := rw3.int_at (i := p) (by omega)
      have HLS : Hid (out.getLast? = some (out.getD p 0)) := Lib.hid (by
       have := HM.out
       rw [List.getLast?_eq_getElem?, List.getD_eq_getElem?_getD, show out.length - 1 = p by omega, List.getElem?_eq_getElem (by omega)]
       rfl)
      generalize out.getD p 0 = z at c7 HLS
      clear hp rw3
      by_cases h4 : z = x.rcd.key
      ·have q4 : (z == x.rcd.key) = true := by simpa using h4
       have HT : Hid (lTo s st mo (a + 1) = out) := Lib.hid (by rw [HST.out]; unfold lStep; rw [if_pos (.inr (.inr (by rw [HLS.out, h4])))])
       clear h1 h2 h3 h4
       obtain ⟨b9_0, b9_1, b9_2, b9_3, b9_4⟩ := b9.c5
       have b9_z := b9.free
       have b9_l := b9.lt
       go_wp2_with fail
       refine ⟨⟨a + 1, by omega, rfl, by rw [HT.out]; exact own, hxd⟩, ?_⟩
       simp only [intOf]
       omega
      ·have q4 : (z == x.rcd.key) = false := by simpa using h4
       have HT0 : Hid (lTo s st mo (a + 1) = if sOk s x.rcd.key = true then out ++ [x.rcd.key] else out) := Lib.hid (by
        rw [HST.out]
        unfold lStep
        rw [if_neg]
        rintro (h | h | h)
        ·exact h1 h
        ·exact h2 (by rw [HM.out]; exact h)
        ·rw [HLS.out] at h; injection h with h; exact h4 h)
       clear h1 h2 h3 h4
       obtain ⟨b9_0, b9_1, b9_2, b9_3, b9_4⟩ := b9.c5
       have b9_z := b9.free
       have b9_l := b9.lt
       obtain ⟨b3_0, b3_1, b3_2, b3_3⟩ := b3.c4
       have b3_z := b3.free
       have b3_l := b3.lt
       go_wp2_with fail
       refine (stoGet_v (key := x.rcd.key) (h.ext hxd) HF.out HR.out).mono ?_
       rintro e4 w4 ⟨v4, q, rfl, HQ, _, he⟩
       try clear b9_0 b9_1 b9_2 b9_3 b9_4 b9_z b9_l b9_0 b9_1 b9_2 b9_3 b9_4 b9_z b9_l b9_0 b9_1 b9_2 b9_3 b9_4 b9_z b9_l b9_0 b9_1 b9_2 b9_3 b9_4 b9_z b9_l b3_0 b3_1 b3_2 b3_3 b3_z b3_l
       have hxd := ext_trans hxd he
       have own := own.ext he
       have b9 := b9.ext he
       have b3 := b3.ext he
       clear he
       have hz4 := hxd.size
       by_cases hq : q = 0
       ·obtain rfl := hq
        have HT : Hid (lTo s st mo (a + 1) = out ++ [x.rcd.key]) := Lib.hid (by rw [HT0.out, if_pos (by unfold sOk; rw [← HQ.out]; rfl)])
        have HL9 : Hid (out.length + 1 ≤ lim) := Lib.hid (by have := HLE.out; have := HAK.out; rw [lim_def]; omega)
        clear HQ
        go_upto_region 10 with (at_builtin; (refine wpl_int rfl (.tmp 55) (.tmp 57) rfl rfl (own.ext (ext_alloc _ _)) rfl (Sl.new _ _ _ _ 1 1 rfl (by unfold maxLen; omega) (Nat.lt_succ_self _)) (y := x.rcd.key) rfl HL9.out (by rw [size_alloc]; omega) (by omega) ?_; intro v7 w7 own7 hg7 hb7))
        rw [← HT.out] at own7
        have hxd : Ext w1 w7 := (hxd.alloc hxd.size _).trans hb7
        go_wp2_with fail
        refine ⟨⟨a + 1, by omega, rfl, own7, hxd⟩, ?_⟩
        simp only [intOf]
        omega
       ·have q5 : (q == 0) = false := by simpa using hq
        have HT : Hid (lTo s st mo (a + 1) = out) := Lib.hid (by rw [HT0.out, if_neg (by unfold sOk; rw [← HQ.out]; simpa using hq)])
        clear hq HQ
        go_wp2_with fail
        refine ⟨⟨a + 1, by omega, rfl, by rw [HT.out]; exact own, hxd⟩, ?_⟩
        simp only [intOf]
        omega
     ·have q3 : decide (0 < mm) = false := by simpa using h3
      have q3i : decide ((0 : Int) < (mm : Int)) = false := by simpa using h3
      have HT0 : Hid (lTo s st mo (a + 1) = if sOk s x.rcd.key = true then out ++ [x.rcd.key] else out) := Lib.hid (by
       have h0 : out = [] := List.eq_nil_of_length_eq_zero (by have := HM.out; omega)
       rw [HST.out]
       unfold lStep
       rw [if_neg]
       rintro (h | h | h)
       ·exact h1 h
       ·exact h2 (by rw [HM.out]; exact h)
       ·rw [h0] at h; cases h)
      clear h1 h2 h3
      obtain ⟨b9_0, b9_1, b9_2, b9_3, b9_4⟩ := b9.c5
      have b9_z := b9.free
      have b9_l := b9.lt
      obtain ⟨b3_0, b3_1, b3_2, b3_3⟩ := b3.c4
      have b3_z := b3.free
      have b3_l := b3.lt
      go_wp2_with fail
      refine (stoGet_v (key := x.rcd.key) (h.ext hxd) HF.out HR.out).mono ?_
      rintro e4 w4 ⟨v4, q, rfl, HQ, _, he⟩
      try clear b9_0 b9_1 b9_2 b9_3 b9_4 b9_z b9_l b3_0 b3_1 b3_2 b3_3 b3_z b3_l
      have hxd := ext_trans hxd he
      have own := own.ext he
      have b9 := b9.ext he
      have b3 := b3.ext he
      clear he
      have hz4 := hxd.size
      by_cases hq : q = 0
      ·obtain rfl := hq
       have HT : Hid (lTo s st mo (a + 1) = out ++ [x.rcd.key]) := Lib.hid (by rw [HT0.out, if_pos (by unfold sOk; rw [← HQ.out]; rfl)])
       have HL9 : Hid (out.length + 1 ≤ lim) := Lib.hid (by have := HLE.out; have := HAK.out; rw [lim_def]; omega)
       clear HQ
       go_upto_region 10 with (at_builtin; (refine wpl_int rfl (.tmp 55) (.tmp 57) rfl rfl (own.ext (ext_alloc _ _)) rfl (Sl.new _ _ _ _ 1 1 rfl (by unfold maxLen; omega) (Nat.lt_succ_self _)) (y := x.rcd.key) rfl HL9.out (by rw [size_alloc]; omega) (by omega) ?_; intro v7 w7 own7 hg7 hb7))
       rw [← HT.out] at own7
       have hxd : Ext w1 w7 := (hxd.alloc hxd.size _).trans hb7
       go_wp2_with fail
       refine ⟨⟨a + 1, by omega, rfl, own7, hxd⟩, ?_⟩
       simp only [intOf]
       omega
      ·have q5 : (q == 0) = false := by simpa using hq
       have HT : Hid (lTo s st mo (a + 1) = out) := Lib.hid (by rw [HT0.out, if_neg (by unfold sOk; rw [← HQ.out]; simpa using hq)])
       clear hq HQ
       go_wp2_with fail
       refine ⟨⟨a + 1, by omega, rfl, by rw [HT.out]; exact own, hxd⟩, ?_⟩
       simp only [intOf]
       omega
  ·obtain rfl : a = k := by omega
   have hrs : lTo s st mo a = sList s st mo := by rw [HK.out]; exact lTo_all s st mo
   rw [hrs] at own
   clear hrs
   go_wp2_with fail
   go_ret
   exact ⟨_, rfl, own.more hz1 (Nat.le_refl _), ext_trans hx hxd⟩
end Go.Proofs.YtdmnmfnmaccmoaaGreatDoor
