/- Walks: slices.EqualFunc, fsck.Sound, fsck.Fits. -/
import Derived.Test.YtpidjkadpnjahaaFs5
namespace Go.Proofs.Ytpidjkadpnjahaa
open Go Go.RowKit
theorem list_step {α : Type} {dd : α} {l m : List α} {a : Nat} (h : l.take a = m.take a) (h1 : a < l.length) (h2 : a < m.length) (h3 : l.getD a dd = m.getD a dd) : l.take (a + 1) = m.take (a + 1) := by
 rw [take_succ_getD dd l a h1, take_succ_getD dd m a h2, h, h3]
set_option maxRecDepth 100000 in
set_option maxHeartbeats 4000000 in
theorem eqBlks_v {T T' : List TypeId} {base base' : Nat} {u v : Value} {l m : List (List UInt8)} {w : World} (h : Row eBlk T w base u l) (h' : Row eBlk T' w base' v m) :
  Calls Try.prog 118 #[u, v, .func (.func 96) #[] #[]] w fun e w' => e = .returned (.bool (l == m)) ∧ Ext w w' := by
 obtain ⟨A, n, c, rfl, hc, hcm, HN⟩ := h.form
 obtain ⟨A', n', c', rfl, hc', hcm', HN'⟩ := h'.form
 unfold maxLen at hcm hcm'
 have eg := enters_of Try.func96 (by kernel_rfl) rfl
 go_enter Try.func118, Try.ntmps118
 by_cases hnn : n = n'
 ·subst hnn
  have q1 : ((n : Int) != (n : Int)) = false := by simp
  go_wp2_with fail
  clear q1
  go_loopw [17] (fun i wr => ∃ a : Nat, a ≤ n ∧ i = .int .i64 a ∧ Hid (l.take a = m.take a) ∧ Ext w wr) (fun i _ => n - (intOf i).toNat)
  case atStart => exact ⟨0, by omega, rfl, by simp [Hid], Below.refl _ _⟩
  case round =>
   obtain ⟨a, ha, rfl, HT, hd⟩ := hrel
   by_cases hlt : a < n
   ·have e0 : (0 : Int) ≤ (a : Int) := by omega
    have e1 : (a : Int) < (n : Int) := by omega
    have hal : a < l.length := HN.out ▸ hlt
    have hal' : a < m.length := HN'.out ▸ hlt
    have STEP := Lib.hid (fun h3 => list_step (dd := []) HT.out hal hal' h3)
    have MISS := Lib.hid (fun (h3 : l.getD a [] ≠ m.getD a []) (e : l = m) => h3 (by rw [e]))
    obtain ⟨g1, o1, u1, rfl, hg1, x0, hu1⟩ := (h.ext hd).blk_at hlt
    obtain ⟨g2, o2, u2, rfl, hg2, y0, hu2⟩ := (h'.ext hd).blk_at hlt
    generalize l.getD a [] = x at hu1 STEP MISS
    generalize m.getD a [] = y at hu2 STEP MISS
    obtain ⟨A1, k1, c1, rfl, hy1, _⟩ := hu1.form
    obtain ⟨A2, k2, c2, rfl, hy2, _⟩ := hu2.form
    clear hal hal' hg1 hg2
    go_wp2_with fail
    show Calls Try.prog 96 #[.slice A1 k1 c1, .slice A2 k2 c2] _ _
    refine (equal_w _ hy1 hy2).mono ?_
    rintro e2 w2 ⟨rfl, mm, rfl⟩
    clear x0 y0
    by_cases hxy : x = y
    ·have S2 := Lib.hid (STEP.out hxy)
     have qq : (x == y) = true := by simpa using hxy
     clear hxy
     go_wp2_with fail
     refine ⟨⟨a + 1, by omega, rfl, S2.out, below_drewN hd _⟩, ?_⟩
     simp only [intOf]
     omega
    ·have M2 := Lib.hid (show (l == m) = false by simpa using MISS.out hxy)
     have qq : (x == y) = false := by simpa using hxy
     clear hxy
     go_wp2_with fail
     go_ret
     exact ⟨by rw [M2.out]; rfl, below_drewN hd _⟩
   ·obtain rfl : a = n := by omega
    have M2 := Lib.hid (show (l == m) = true by
     rw [List.take_of_length_le (by rw [HN.out]; exact Nat.le_refl _), List.take_of_length_le (by rw [HN'.out]; exact Nat.le_refl _)] at HT
     simpa using HT.out)
    go_wp2_with fail
    go_ret
    exact ⟨by rw [M2.out]; rfl, hd⟩
 ·have M2 := Lib.hid (show (l == m) = false by
   have : l ≠ m := fun e => hnn (by rw [HN.out, HN'.out, e])
   simpa using this)
  have q1 : ((n : Int) != (n' : Int)) = true := by simpa using (fun e => hnn (by omega) : ¬ (n : Int) = (n' : Int))
  go_wp2_with fail
  go_ret
  exact ⟨by rw [M2.out]; rfl, Below.refl _ _⟩
set_option maxRecDepth 100000 in
set_option maxHeartbeats 4000000 in
theorem fits1_v {base base' : Nat} {v v' : Value} {x y : Ent} {w : World} (h : EntV w base v x) (h' : EntV w base' v' y) :
  Calls Try.prog 120 #[v, v'] w fun e w' => e = .returned (.bool (decide (x = y))) ∧ Ext w w' := by
 obtain ⟨A1, n1, c1, rfl, hx1, _⟩ := h.at_
 obtain ⟨A2, n2, c2, rfl, hx2, _⟩ := h'.at_
 clear h h'
 go_enter Try.func120, Try.ntmps120
 go_upto_region 1 with (fail)
 generalize hwn : World.alloc (World.alloc w _) _ = w1
 have hx : Ext w w1 := by rw [← hwn]; exact (ext_alloc _ _).alloc (by simp) _
 have b2 : Box w1 w.heap.size 74 (cE x (.slice A1 n1 c1)) := by rw [← hwn]; exact (Box.new _ _ _ rfl).alloc _
 have b3 : Box w1 (w.heap.size + 1) 74 (cE y (.slice A2 n2 c2)) := by rw [← hwn]; exact Box.new _ _ _ (by simp)
 clear hwn
 have hx1 := hx1.ext hx
 have hx2 := hx2.ext hx
 obtain ⟨g2, hg2⟩ : ∃ g, g = w.heap.size := ⟨_, rfl⟩
 obtain ⟨g3, hg3⟩ : ∃ g, g = w.heap.size + 1 := ⟨_, rfl⟩
 rw [← hg3] at b3 ⊢
 rw [← hg2]
 rw [show Box w1 w.heap.size 74 (cE x (.slice A1 n1 c1)) ↔ Box w1 g2 74 (cE x (.slice A1 n1 c1)) by rw [hg2]] at b2
 clear hg2 hg3
 by_cases k1 : x.pair = y.pair
 ·have q1 : (x.pair == y.pair) = true := by simpa using k1
  by_cases k2 : x.rcd.kind = y.rcd.kind
  ·have q2 : (x.rcd.kind == y.rcd.kind) = true := by simpa using k2
   by_cases k3 : x.rcd.key = y.rcd.key
   ·have q3 : (x.rcd.key == y.rcd.key) = true := by simpa using k3
    by_cases k4 : x.rcd.ver = y.rcd.ver
    ·have q4 : (x.rcd.ver == y.rcd.ver) = true := by simpa using k4
     have HE := Lib.hid (show (x.rcd.data == y.rcd.data) = decide (x = y) by
      obtain ⟨⟨a, b, c, d⟩, p⟩ := x
      obtain ⟨⟨a', b', c', d'⟩, p'⟩ := y
      simp only at k1 k2 k3 k4
      subst k1 k2 k3 k4
      by_cases e : d = d' <;> simp [e])
     clear k1 k2 k3 k4
     obtain ⟨b2_0, b2_1, b2_2, b2_3, b2_4⟩ := b2.c5
     have b2_z := b2.free
     have b2_l := b2.lt
     obtain ⟨b3_0, b3_1, b3_2, b3_3, b3_4⟩ := b3.c5
     have b3_z := b3.free
     have b3_l := b3.lt
     go_wp2_with fail
     refine (equal_w _ hx1 hx2).mono ?_
     rintro e2 w2 ⟨rfl, mm, rfl⟩
     try clear b2_0 b2_1 b2_2 b2_3 b2_4 b2_z b2_l b3_0 b3_1 b3_2 b3_3 b3_4 b3_z b3_l
     rw [HE.out]
     go_wp2_with fail
     go_ret
     exact ⟨rfl, below_drewN hx _⟩
    ·have q4 : (x.rcd.ver == y.rcd.ver) = false := by simpa using k4
     have hne : x ≠ y := fun e => k4 (by rw [e])
     clear k1 k2 k3 k4
     have hd := Lib.hid hne
     obtain ⟨b2_0, b2_1, b2_2, b2_3, b2_4⟩ := b2.c5
     have b2_z := b2.free
     have b2_l := b2.lt
     obtain ⟨b3_0, b3_1, b3_2, b3_3, b3_4⟩ := b3.c5
     have b3_z := b3.free
     have b3_l := b3.lt
     go_wp2_with fail
     go_ret
     exact ⟨by rw [decide_eq_false hd.out]; rfl, by (repeat (with_reducible (first | assumption | exact Below.refl _ _ | refine Below.setCell ?_ (by simp <;> omega) _ | refine Below.alloc ?_ (by simp <;> omega) _ | refine Below.drew ?_ | refine below_drewN ?_ _)))⟩
   ·have q3 : (x.rcd.key == y.rcd.key) = false := by simpa using k3
    have hne : x ≠ y := fun e => k3 (by rw [e])
    clear k1 k2 k3
    have hd := Lib.hid hne
    obtain ⟨b2_0, b2_1, b2_2, b2_3, b2_4⟩ := b2.c5
    have b2_z := b2.free
    have b2_l := b2.lt
    obtain ⟨b3_0, b3_1, b3_2, b3_3, b3_4⟩ := b3.c5
    have b3_z := b3.free
    have b3_l := b3.lt
    go_wp2_with fail
    go_ret
    exact ⟨by rw [decide_eq_false hd.out]; rfl, by (repeat (with_reducible (first | assumption | exact Below.refl _ _ | refine Below.setCell ?_ (by simp <;> omega) _ | refine Below.alloc ?_ (by simp <;> omega) _ | refine Below.drew ?_ | refine below_drewN ?_ _)))⟩
  ·have q2 : (x.rcd.kind == y.rcd.kind) = false := by simpa using k2
   have hne : x ≠ y := fun e => k2 (by rw [e])
   clear k1 k2
   have hd := Lib.hid hne
   obtain ⟨b2_0, b2_1, b2_2, b2_3, b2_4⟩ := b2.c5
   have b2_z := b2.free
   have b2_l := b2.lt
   obtain ⟨b3_0, b3_1, b3_2, b3_3, b3_4⟩ := b3.c5
   have b3_z := b3.free
   have b3_l := b3.lt
   go_wp2_with fail
   go_ret
   exact ⟨by rw [decide_eq_false hd.out]; rfl, by (repeat (with_reducible (first | assumption | exact Below.refl _ _ | refine Below.setCell ?_ (by simp <;> omega) _ | refine Below.alloc ?_ (by simp <;> omega) _ | refine Below.drew ?_ | refine below_drewN ?_ _)))⟩
 ·have q1 : (x.pair == y.pair) = false := by simpa using k1
  have hne : x ≠ y := fun e => k1 (by rw [e])
  clear k1
  have hd := Lib.hid hne
  obtain ⟨b2_0, b2_1, b2_2, b2_3, b2_4⟩ := b2.c5
  have b2_z := b2.free
  have b2_l := b2.lt
  obtain ⟨b3_0, b3_1, b3_2, b3_3, b3_4⟩ := b3.c5
  have b3_z := b3.free
  have b3_l := b3.lt
  go_wp2_with fail
  go_ret
  exact ⟨by rw [decide_eq_false hd.out]; rfl, by (repeat (with_reducible (first | assumption | exact Below.refl _ _ | refine Below.setCell ?_ (by simp <;> omega) _ | refine Below.alloc ?_ (by simp <;> omega) _ | refine Below.drew ?_ | refine below_drewN ?_ _)))⟩
set_option maxRecDepth 100000 in
set_option maxHeartbeats 4000000 in
theorem eqEnts_v {T T' : List TypeId} {base base' : Nat} {u v : Value} {l m : List Ent} {w : World} (h : Row eEnt T w base u l) (h' : Row eEnt T' w base' v m) :
  Calls Try.prog 119 #[u, v, .func (.func 120) #[] #[]] w fun e w' => e = .returned (.bool (esSame l m)) ∧ Ext w w' := by
 obtain ⟨A, n, c, rfl, hc, hcm, HN⟩ := h.form
 obtain ⟨A', n', c', rfl, hc', hcm', HN'⟩ := h'.form
 unfold maxLen at hcm hcm'
 have eg := enters_of Try.func120 (by kernel_rfl) rfl
 go_enter Try.func119, Try.ntmps119
 by_cases hnn : n = n'
 ·subst hnn
  have q1 : ((n : Int) != (n : Int)) = false := by simp
  go_wp2_with fail
  clear q1
  go_loopw [17] (fun i wr => ∃ a : Nat, a ≤ n ∧ i = .int .i64 a ∧ Hid (l.take a = m.take a) ∧ Ext w wr) (fun i _ => n - (intOf i).toNat)
  case atStart => exact ⟨0, by omega, rfl, by simp [Hid], Below.refl _ _⟩
  case round =>
   obtain ⟨a, ha, rfl, HT, hd⟩ := hrel
   by_cases hlt : a < n
   ·have e0 : (0 : Int) ≤ (a : Int) := by omega
    have e1 : (a : Int) < (n : Int) := by omega
    have hal : a < l.length := HN.out ▸ hlt
    have hal' : a < m.length := HN'.out ▸ hlt
    have STEP := Lib.hid (fun h3 => take_eq_step HT.out hal hal' h3)
    have MISS := Lib.hid (fun h3 => (getD_ne (l := l) (m := m) (a := a)) h3)
    obtain ⟨g1, o1, u1, rfl, hg1, hu1, f1⟩ := h.ent_x hlt
    obtain ⟨g2, o2, u2, rfl, hg2, hu2, f2⟩ := h'.ent_x hlt
    generalize l.getD a ⟨rZero, 0⟩ = x at hu1 f1 STEP MISS
    generalize m.getD a ⟨rZero, 0⟩ = y at hu2 f2 STEP MISS
    obtain ⟨A1, k1, c1, rfl, _, _⟩ := hu1.form
    obtain ⟨A2, k2, c2, rfl, _, _⟩ := hu2.form
    obtain ⟨x0, x1, x2, x3, x4⟩ := f1 _ hd
    obtain ⟨y0, y1, y2, y3, y4⟩ := f2 _ hd
    have hu1 := hu1.ext hd
    have hu2 := hu2.ext hd
    have hgl : g1 < wr.heap.size := Nat.lt_of_lt_of_le hg1 hd.size
    have hgl2 : g2 < wr.heap.size := Nat.lt_of_lt_of_le hg2 hd.size
    clear hal hal' hg1 hg2 f1 f2
    go_upto_region 7 with (fail)
    generalize hwn : World.alloc (World.alloc wr _) _ = w3
    have he : Ext wr w3 := by rw [← hwn]; exact (ext_alloc _ _).alloc (by simp) _
    have b8 : Box w3 wr.heap.size 74 (cE x (.slice A1 k1 c1)) := by rw [← hwn]; exact (Box.new _ _ _ (by simp)).alloc _
    have b9 : Box w3 (wr.heap.size + 1) 74 (cE y (.slice A2 k2 c2)) := by rw [← hwn]; exact Box.new _ _ _ (by simp)
    clear hwn x0 x1 x2 x3 x4 y0 y1 y2 y3 y4 hgl hgl2
    have hu1 := hu1.ext he
    have hu2 := hu2.ext he
    have hd := ext_trans hd he
    clear he
    obtain ⟨b8_0, b8_1, b8_2, b8_3, b8_4⟩ := b8.c5
    have b8_z := b8.free
    have b8_l := b8.lt
    obtain ⟨b9_0, b9_1, b9_2, b9_3, b9_4⟩ := b9.c5
    have b9_z := b9.free
    have b9_l := b9.lt
    go_wp2_with fail
    show Calls Try.prog 120 #[.agg (cE x (.slice A1 k1 c1)), .agg (cE y (.slice A2 k2 c2))] _ _
    refine (fits1_v (x := x) (y := y) ⟨_, rfl, hu1⟩ ⟨_, rfl, hu2⟩).mono ?_
    rintro e2 w2 ⟨rfl, he⟩
    try clear b2_0 b2_1 b2_2 b2_3 b2_4 b2_z b2_l b3_0 b3_1 b3_2 b3_3 b3_4 b3_z b3_l b2_0 b2_1 b2_2 b2_3 b2_4 b2_z b2_l b3_0 b3_1 b3_2 b3_3 b3_4 b3_z b3_l b2_0 b2_1 b2_2 b2_3 b2_4 b2_z b2_l b3_0 b3_1 b3_2 b3_3 b3_4 b3_z b3_l b2_0 b2_1 b2_2 b2_3 b2_4 b2_z b2_l b3_0 b3_1 b3_2 b3_3 b3_4 b3_z b3_l b8_0 b8_1 b8_2 b8_3 b8_4 b8_z b8_l b9_0 b9_1 b9_2 b9_3 b9_4 b9_z b9_l
    have hd := ext_trans hd he
    clear he
    by_cases hxy : x = y
    ·have S2 := Lib.hid (STEP.out hxy)
     rw [decide_eq_true hxy]
     clear hxy
     go_wp2_with fail
     refine ⟨⟨a + 1, by omega, rfl, S2.out, hd⟩, ?_⟩
     simp only [intOf]
     omega
    ·have M2 := Lib.hid (show esSame l m = false by unfold esSame; exact decide_eq_false (MISS.out hxy))
     rw [decide_eq_false hxy]
     clear hxy
     go_wp2_with fail
     go_ret
     exact ⟨by rw [M2.out]; rfl, hd⟩
   ·obtain rfl : a = n := by omega
    have M2 := Lib.hid (show esSame l m = true by
     rw [List.take_of_length_le (by rw [HN.out]; exact Nat.le_refl _), List.take_of_length_le (by rw [HN'.out]; exact Nat.le_refl _)] at HT
     unfold esSame
     exact decide_eq_true HT.out)
    go_wp2_with fail
    go_ret
    exact ⟨by rw [M2.out]; rfl, hd⟩
 ·have M2 := Lib.hid (show esSame l m = false by
   have : l ≠ m := fun e => hnn (by rw [HN.out, HN'.out, e])
   unfold esSame
   exact decide_eq_false this)
  have q1 : ((n : Int) != (n' : Int)) = true := by simpa using (fun e => hnn (by omega) : ¬ (n : Int) = (n' : Int))
  go_wp2_with fail
  go_ret
  exact ⟨by rw [M2.out]; rfl, Below.refl _ _⟩
set_option maxRecDepth 100000 in
set_option maxHeartbeats 4000000 in
theorem fSound_v {T : List TypeId} {base j : Nat} {v : Value} {d : Dsk} {w : World} (h : DskV T w base v d) (hf : Fine d j) (h12 : d.blocks.length = 12) :
  Calls Try.prog 83 #[v] w fun e w' => e = .returned (.bool (fSound d)) ∧ Ext w w' := by
 obtain ⟨A, n, c, E, m, e, rfl, HN, HM, hb, hl, hnc, hme⟩ := h.form
 have HF := Lib.hid hf
 have H12 := Lib.hid h12
 clear hl HM HN hf h12
 go_enter Try.func83, Try.ntmps83
 go_upto_region 1 with (fail)
 generalize hwn : World.alloc w _ = w1
 have hx : Ext w w1 := by rw [← hwn]; exact ext_alloc _ _
 have b1 : Box w1 w.heap.size 42 #[.slice A n c, .slice E m e] := by rw [← hwn]; exact Box.new _ _ _ rfl
 clear hwn
 have h := h.ext hx
 have hb := hb.ext hx
 obtain ⟨b1_0, b1_1⟩ := b1.c2
 have b1_z := b1.free
 have b1_l := b1.lt
 go_wp2_with fail
 refine (fClean_v h HF.out H12.out).mono ?_
 rintro e2 w2 ⟨v2, tw, rfl, d2, _, he⟩
 try clear b1_0 b1_1 b1_z b1_l
 have hx := ext_trans hx he
 have b1 := b1.ext he
 have hb := hb.ext he
 clear he
 clear h
 obtain ⟨A2, n2, c2, E2, m2, e2, rfl, _, _, r2, _, _, _⟩ := d2.form
 clear d2
 unfold repC
 go_upto_region 2 with (fail)
 generalize hwn : World.alloc (World.alloc w2 _) _ = w3
 have he : Ext w2 w3 := by rw [← hwn]; exact (ext_alloc _ _).alloc (by simp) _
 have b3 : Box w3 w2.heap.size 42 #[.slice A2 n2 c2, .slice E2 m2 e2] := by rw [← hwn]; exact (Box.new _ _ _ (by simp)).alloc _
 clear hwn
 have hx := ext_trans hx he
 have b1 := b1.ext he
 have hb := hb.ext he
 have r2 := r2.ext he
 clear he
 obtain ⟨b1_0, b1_1⟩ := b1.c2
 have b1_z := b1.free
 have b1_l := b1.lt
 obtain ⟨b3_0, b3_1⟩ := b3.c2
 have b3_z := b3.free
 have b3_l := b3.lt
 go_wp2_with fail
 refine (eqBlks_v r2 hb).mono ?_
 rintro e4 w4 ⟨rfl, he⟩
 try clear b1_0 b1_1 b1_z b1_l b3_0 b3_1 b3_z b3_l
 have HS := Lib.hid (show ((fClean d).1.blocks == d.blocks) = fSound d from rfl)
 rw [HS.out]
 go_wp2_with fail
 go_ret
 exact ⟨rfl, ext_trans hx he⟩
set_option maxRecDepth 100000 in
set_option maxHeartbeats 4000000 in
theorem fFits_v {T T' : List TypeId} {base base' : Nat} {u v : Value} {l : List Ent} {d : Dsk} {w : World} (hl : Row eEnt T' w base' u l) (h : DskV T w base v d) (hk : DskOk d) :
  Calls Try.prog 85 #[u, v] w fun e w' => e = .returned (.bool (fFits l d)) ∧ Ext w w' := by
 obtain ⟨A, n, c, E, m, e, rfl, HN, HM, hb, _, hnc, hme⟩ := h.form
 obtain ⟨A1, n1, c1, rfl, _, _, _⟩ := hl.form
 have HF := Lib.hid hk
 clear hb HM HN hk
 go_enter Try.func85, Try.ntmps85
 go_upto_region 1 with (fail)
 generalize hwn : World.alloc w _ = w1
 have hx : Ext w w1 := by rw [← hwn]; exact ext_alloc _ _
 have b1 : Box w1 w.heap.size 42 #[.slice A n c, .slice E m e] := by rw [← hwn]; exact Box.new _ _ _ rfl
 clear hwn
 have h := h.ext hx
 have hl := hl.ext hx
 obtain ⟨b1_0, b1_1⟩ := b1.c2
 have b1_z := b1.free
 have b1_l := b1.lt
 go_wp2_with fail
 refine (ixScan_v h HF.out).mono ?_
 rintro e2 w2 ⟨v2, rfl, o2, he⟩
 try clear b1_0 b1_1 b1_z b1_l
 have hx := ext_trans hx he
 have b1 := b1.ext he
 have hl := hl.ext he
 clear he
 have r2 := o2.row (T := [74]) (base := 0) (by decide) (Nat.le_refl _)
 clear o2
 obtain ⟨A2, n2, c2, rfl, _, _, _⟩ := r2.form
 go_wp2_with fail
 refine (eqEnts_v hl r2).mono ?_
 rintro e4 w4 ⟨rfl, he⟩
 have HS := Lib.hid (show esSame l (iScan d) = fFits l d from rfl)
 rw [HS.out]
 go_wp2_with fail
 go_ret
 exact ⟨rfl, ext_trans hx he⟩
end Go.Proofs.Ytpidjkadpnjahaa
