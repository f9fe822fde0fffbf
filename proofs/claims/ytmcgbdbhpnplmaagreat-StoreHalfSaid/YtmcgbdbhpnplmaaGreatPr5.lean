/- Walks: scref1.Look. Two operations that are ready at once, beside operations that yield in whatever world. -/
import Derived.Test.YtmcgbdbhpnplmaaGreatPr1
import Derived.Test.YtmcgbdbhpnplmaaGreatMixU
namespace Go.Proofs.YtmcgbdbhpnplmaaGreat
open Go Go.RowKit
section
variable {P : Program} {Q : Exit → Act → World → Prop} {md : Region.Mode} {X : World → World → Prop} {Us : List Nat} {l : List Oper} {Fs : List Nat} {f : Nat} {listed : Array Bool} {a : Act} {w : World}
theorem uS2 (i j : Nat) {o o' : Oper} (hp : pickU md l.toArray Us Fs listed = none) (hr : Region.ready md l.toArray listed = [i, j]) (ho : l[i]? = some o) (ho' : l[j]? = some o')
  (hw : Region.wanted o (yielded l.toArray a.tmps) = true) (hw' : Region.wanted o' (yielded l.toArray a.tmps) = true)
  (h : ∀ K : Act → World → Prop, Shut (∀ a' w', X w w' → wpTreeU P md l.toArray Q X Us Fs f (listed.setIfInBounds i true) a' w' → K a' w') → o.wp P a w K Q)
  (h' : ∀ K : Act → World → Prop, Shut (∀ a' w', X w w' → wpTreeU P md l.toArray Q X Us Fs f (listed.setIfInBounds j true) a' w' → K a' w') → o'.wp P a w K Q) : wpTreeU P md l.toArray Q X Us Fs (f + 1) listed a w := by
 unfold wpTreeU
 rw [hp]
 refine ⟨fun h0 => (by rw [hr] at h0; cases h0), fun k hk => ?_⟩
 rw [hr] at hk
 simp only [List.mem_cons, List.not_mem_nil, or_false] at hk
 rcases hk with rfl | rfl
 ·exact mix_op ho hw (h _ fun a' w' h1 h2 => ⟨.inr h1, h2⟩)
 ·exact mix_op ho' hw' (h' _ fun a' w' h1 h2 => ⟨.inr h1, h2⟩)
end
theorem dLast_len {l : List (Int × List UInt8)} {k : Int} : ∀ {b : List UInt8}, b.length ≤ 4096 → (∀ x ∈ l, x.2.length ≤ 4096) → (dLast l k b).length ≤ 4096 := by
 unfold dLast
 induction l with
 | nil => intro b h _; exact h
 | cons x l ih =>
  intro b h hx
  rw [List.foldl_cons]
  refine ih ?_ fun y hy => hx y (by simp [hy])
  split
  ·exact hx x (by simp)
  ·exact h
theorem DskOk.get {d : Dsk} (h : DskOk d) (k : Int) : (dGet d k).1.length ≤ 4096 := by
 unfold dGet
 split
 ·simp
 ·refine dLast_len (h.block _) fun x hx => ?_
  obtain ⟨i, hi, rfl⟩ := List.getElem_of_mem hx
  have := h.write i
  rwa [List.getD_eq_getElem?_getD, List.getElem?_eq_getElem hi] at this
def pR (s : Rec × Bool) : Rec := if s.2 then s.1 else rFree
def cB (s : Rec × Bool) : Int := if s.2 then 0 else 1
def cS (s : Rec × Bool) : Int := if (pR s).kind = 1 then 0 else 1
def lst (k : Int) : Int := if k = 0 then 0 else if k = 1 then 3 else 4
def rHow (a b : Rec × Bool) : Int × Rec :=
 if (pR a).kind ≠ 1 ∧ (pR b).kind ≠ 1 then (if rSame (pR a) (pR b) = true then (1, pR a) else (5, pR a))
 else if (pR a).kind ≠ 1 then (2, pR a) else if (pR b).kind ≠ 1 then (2, pR b) else (lst (cB a + cB b), rFree)
theorem rHow_def (a b : Rec × Bool) : rHow a b = if (pR a).kind ≠ 1 ∧ (pR b).kind ≠ 1 then (if rSame (pR a) (pR b) = true then (1, pR a) else (5, pR a))
 else if (pR a).kind ≠ 1 then (2, pR a) else if (pR b).kind ≠ 1 then (2, pR b) else (lst (cB a + cB b), rFree) := rfl
theorem pHow_r (a b : Rec × Bool) : pHow a b = rHow a b := by
 obtain ⟨ra, ba⟩ := a
 obtain ⟨rb, bb⟩ := b
 unfold pHow rHow pTells pR cB lst
 cases ba <;> cases bb <;> by_cases ka : ra.kind = 1 <;> by_cases kb : rb.kind = 1 <;> simp [ka, kb, rFree]
theorem pLook_r (d : Dsk) (p : Int) (h : pIn d p) : pLook d p = rHow (pSide d (2 * p)) (pSide d (2 * p + 1)) := by unfold pLook; rw [if_pos h, pHow_r]
def LookAt (w : World) (g : Nat) (d : Dsk) (p : Int) : Nat → Int → Int → Prop
 | 0, nb, ns => nb = 0 ∧ ns = 0 ∧ Box w g 135 z8
 | 1, nb, ns => nb = cB (pSide d (2 * p)) ∧ ns = cS (pSide d (2 * p)) ∧ ∃ u, Box w g 135 #[.int .i64 (pR (pSide d (2 * p))).kind, .int .i64 (pR (pSide d (2 * p))).key, .int .i64 (pR (pSide d (2 * p))).ver, u, .int .i64 0, .int .i64 0, .int .i64 0, .slice none 0 0] ∧ ByT w 0 u (pR (pSide d (2 * p))).data
 | _, nb, ns => nb = cB (pSide d (2 * p)) + cB (pSide d (2 * p + 1)) ∧ ns = cS (pSide d (2 * p)) + cS (pSide d (2 * p + 1)) ∧ ∃ u u', B8 w g (pR (pSide d (2 * p))) (pR (pSide d (2 * p + 1))) u u' ∧ ByT w 0 u (pR (pSide d (2 * p))).data ∧ ByT w 0 u' (pR (pSide d (2 * p + 1))).data
theorem cB_bd (s : Rec × Bool) : 0 ≤ cB s ∧ cB s ≤ 1 := by unfold cB; split <;> omega
theorem cS_bd (s : Rec × Bool) : 0 ≤ cS s ∧ cS s ≤ 1 := by unfold cS; split <;> omega
set_option maxRecDepth 100000 in
set_option maxHeartbeats 4000000 in
theorem refLook_v {T : List TypeId} {base : Nat} {v : Value} {d : Dsk} {p : Int} {w : World} (h : DskV T w base v d) (hk : DskOk d) :
  Calls Tryz.prog 79 #[v, .int .i64 p] w fun e w' => ∃ rv, e = .returned (.tuple #[.int .i64 (pLook d p).1, rv]) ∧ RecV w' 0 rv (pLook d p).2 ∧ Ext w w' := by
 have h := h.all (T' := tD)
 obtain ⟨A, n, c, E, m, e, rfl, HN, HM, hb, hl, hnc, hme⟩ := h.form
 clear hb hl HM
 have hn4 : n ≤ 4096 := by have := hk.blocks; have := HN.out; omega
 go_enter Tryz.func79, Tryz.ntmps79
 go_upto_region 3 with (fail)
 generalize hwn : World.alloc (World.alloc (World.alloc w _) _) _ = W
 have hx : Ext w W := by rw [← hwn]; (repeat (with_reducible (first | assumption | exact Below.refl _ _ | refine Below.setCell ?_ (by simp <;> omega) _ | refine Below.alloc ?_ (by simp <;> omega) _ | refine Below.drew ?_ | refine below_drewN ?_ _)))
 have b2 : Box W w.heap.size 30 #[.slice A n c, .slice E m e] := by rw [← hwn]; exact ((Box.new _ _ _ rfl).alloc _).alloc _
 have b5 : Box W (w.heap.size + 1) 51 #[.int .i64 0, .int .i64 0, .int .i64 0, .slice none 0 0] := by rw [← hwn]; exact (Box.new _ _ _ (by simp)).alloc _
 have b6 : Box W (w.heap.size + 1 + 1) 135 z8 := by rw [← hwn]; exact Box.new _ _ _ (by simp)
 clear hwn
 obtain ⟨g2, hg2⟩ : ∃ g, g = w.heap.size := ⟨_, rfl⟩
 obtain ⟨g5, hg5⟩ : ∃ g, g = w.heap.size + 1 := ⟨_, rfl⟩
 obtain ⟨g6, hg6⟩ : ∃ g, g = w.heap.size + 1 + 1 := ⟨_, rfl⟩
 have l2 : w.heap.size ≤ g2 := by omega
 have l5 : g2 < g5 := by omega
 have l6 : g5 < g6 := by omega
 rw [← hg6] at b6 ⊢
 rw [← hg5] at b5 ⊢
 rw [show Box W w.heap.size 30 #[.slice A n c, .slice E m e] ↔ Box W g2 30 #[.slice A n c, .slice E m e] by rw [hg2]] at b2
 rw [← hg2]
 clear hg2 hg5 hg6
 have h := h.ext hx
 by_cases hp : 0 ≤ p ∧ p < (n : Int) / 2
 ·have PI : Hid (pIn d p) := Lib.hid (by unfold pIn; rw [← HN.out]; exact hp)
  obtain ⟨h0, h1⟩ := hp
  have q0 : decide (p < 0) = false := by rw [decide_eq_false_iff_not]; omega
  have q1 : decide ((n : Int) / 2 ≤ p) = false := by rw [decide_eq_false_iff_not]; omega
  obtain ⟨b2_0, b2_1⟩ := b2.c2
  have b2_z := b2.free
  have b2_l := b2.lt
  go_wp2_with fail
  try clear b2_0 b2_1 b2_z b2_l
  clear q0 q1
  go_loopw [7, 8, 26] (fun bad some i wr => ∃ a : Nat, a ≤ 2 ∧ i = .int .i64 a ∧ ∃ nb ns, bad = .int .i64 nb ∧ some = .int .i64 ns ∧ Ext w wr ∧ Box wr g2 30 #[.slice A n c, .slice E m e] ∧ Box wr g5 51 #[.int .i64 0, .int .i64 0, .int .i64 0, .slice none 0 0] ∧
   LookAt wr g6 d p a nb ns ∧ DskV tD wr w.heap.size (.agg #[.slice A n c, .slice E m e]) d) (fun _ _ i _ => 2 - (intOf i).toNat)
  case atStart => exact ⟨0, by omega, rfl, 0, 0, rfl, rfl, hx, b2, b5, ⟨rfl, rfl, b6⟩, h⟩
  case round =>
   clear hx h b2 b5 b6
   obtain ⟨a, ha, rfl, nb, ns, rfl, rfl, hx, b2, b5, b6, h⟩ := hrel
   rcases (show a = 0 ∨ a = 1 ∨ a = 2 by omega) with rfl | rfl | rfl
   ·obtain ⟨rfl, rfl, b6⟩ := b6
    have hw := ByT.nil wr 0
    rw [show ((0 : Nat) : Int) = 0 from rfl]
    obtain ⟨b2_0, b2_1⟩ := b2.c2
    have b2_z := b2.free
    have b2_l := b2.lt
    go_wp2_with fail
    refine (refGet_v (k := 2 * p) h hk).mono ?_
    rintro e3 w3 ⟨v3, q3, rfl, hq3, hy3, he⟩
    try clear b2_0 b2_1 b2_z b2_l
    rw [dGet_zero d (2 * p) (by omega) (by have := HN.out; omega)] at hq3
    subst hq3
    obtain ⟨A3, n3, c3, rfl, hy3, HN3⟩ := hy3.form
    have hx := ext_trans hx he
    have b2 := b2.ext he
    have b5 := b5.ext he
    have b6 := b6.ext he
    have h := h.ext he
    have hw := hw.ext he
    clear he
    have l612 : g6 < w3.heap.size := by have := b6.lt; omega
    go_upto_region 10 with (fail)
    generalize hwn : World.alloc w3 _ = w4
    have he : Ext w3 w4 := by rw [← hwn]; (repeat (with_reducible (first | assumption | exact Below.refl _ _ | refine Below.setCell ?_ (by simp <;> omega) _ | refine Below.alloc ?_ (by simp <;> omega) _ | refine Below.drew ?_ | refine below_drewN ?_ _)))
    have b12 : Box w4 w3.heap.size 51 #[.int .i64 0, .int .i64 0, .int .i64 0, .slice none 0 0] := by rw [← hwn]; exact Box.new _ _ _ (by simp)
    have hz3 := hx.size
    have hx := ext_trans hx he
    have b2 := b2.ext he
    have b5 := b5.ext he
    have b6 := b6.ext he
    have h := h.ext he
    have hw := hw.ext he
    have hy3 := hy3.ext he
    clear he hwn
    have hn3 : n3 ≤ blim := by have := hk.get (2 * p); rw [blim_def, HN3.out]; omega
    go_wp2_with fail
    refine (refRead_w (l := (dGet d (2 * p)).1) (k := 2 * p) _ hy3 (Nat.le_refl _) hn3).mono ?_
    rintro e5 w5 ⟨v5, q5, rfl, hq5, hr5, he⟩
    obtain ⟨u5, rfl, hu5⟩ := (hr5.recV (base := 0))
    have hx := ext_trans hx he
    have b2 := b2.ext he
    have b5 := b5.ext he
    have b6 := b6.ext he
    have b12 := b12.ext he
    have h := h.ext he
    have hw := hw.ext he
    clear he hr5 hy3 hn3
    have hs1 : (rRead (dGet d (2 * p)).1 (2 * p)).1 = (pSide d (2 * p)).1 := rfl
    have hs2 : decide (q5 = 0) = (pSide d (2 * p)).2 := by rw [hq5]; rfl
    rw [hs1] at hu5 ⊢
    clear hq5 hs1
    obtain ⟨sd, hsd⟩ : ∃ s, pSide d (2 * p) = s := ⟨_, rfl⟩
    rw [hsd] at hu5 hs2 ⊢
    have HSD := Lib.hid hsd
    clear hsd
    obtain ⟨⟨rk, ry, rv, rd⟩, sb⟩ := sd
    simp only at hu5 hs2 ⊢
    obtain ⟨A5, n5, c5, rfl, _, _⟩ := hu5.form
    have k12 := b12.kd
    cases sb with
    | true =>
     have hq0 : q5 = 0 := by simpa using hs2
     subst hq0
     clear hs2
     by_cases k1 : rk = 1
     ·subst k1
      have HR : Hid (pR (⟨1, ry, rv, rd⟩, true) = ⟨1, ry, rv, rd⟩ ∧ cB (⟨1, ry, rv, rd⟩, true) = 0 ∧ cS (⟨1, ry, rv, rd⟩, true) = 0) := Lib.hid (by simp [pR, cB, cS])
      obtain ⟨b12_0, b12_1, b12_2, b12_3⟩ := b12.c4
      have b12_z := b12.free
      have b12_l := b12.lt
      obtain ⟨b6_0, b6_1, b6_2, b6_3, b6_4, b6_5, b6_6, b6_7⟩ := b6.c8
      have b6_z := b6.free
      have b6_l := b6.lt
      go_wp2_with fail
      try clear b12_0 b12_1 b12_2 b12_3 b12_z b12_l b6_0 b6_1 b6_2 b6_3 b6_4 b6_5 b6_6 b6_7 b6_z b6_l
      have k6 := b6.kd
      have ne6 : g6 ≠ w3.heap.size := Nat.ne_of_lt l612
      refine ⟨⟨1, by omega, rfl, _, _, rfl, rfl, by (repeat (with_reducible (first | assumption | exact Below.refl _ _ | refine Below.setCell ?_ (by simp <;> omega) _ | refine Below.alloc ?_ (by simp <;> omega) _ | refine Below.drew ?_ | refine below_drewN ?_ _))), by (repeat (with_reducible (first | assumption | refine Box.alloc ?_ _ | refine Box.setOther ?_ (by simp <;> omega) _))), by (repeat (with_reducible (first | assumption | refine Box.alloc ?_ _ | refine Box.setOther ?_ (by simp <;> omega) _))), ⟨?_, ?_, .slice A5 n5 c5, ?_, ?_⟩, ?_⟩, ?_⟩
      ·rw [HSD.out]
       exact HR.out.2.1.symm
      ·rw [HSD.out]
       exact HR.out.2.2.symm
      ·rw [HSD.out, HR.out.1]
       exact put8a ((((b6.setOther ne6 _).setOther ne6 _).setOther ne6 _).setOther ne6 _)
      ·rw [HSD.out, HR.out.1]
       exact hu5.kept (T := []) (by (repeat (with_reducible (first | assumption | exact Kept.refl _ _ _ | (apply Kept.setK; rotate_left; (repeat (first | assumption | apply Kd.set | apply Kd.alloc | apply Kd.drew)); decide; omega) | refine Kept.allocK ?_ _ | refine Kept.drewK ?_))))
      ·exact h.kept (by (repeat (with_reducible (first | assumption | exact Kept.refl _ _ _ | (apply Kept.setK; rotate_left; (repeat (first | assumption | apply Kd.set | apply Kd.alloc | apply Kd.drew)); decide; omega) | refine Kept.allocK ?_ _ | refine Kept.drewK ?_))))
      ·simp only [intOf]
       omega
     ·have q1 : (rk != 1) = true := by simpa using k1
      have HR : Hid (pR (⟨rk, ry, rv, rd⟩, true) = ⟨rk, ry, rv, rd⟩ ∧ cB (⟨rk, ry, rv, rd⟩, true) = 0 ∧ cS (⟨rk, ry, rv, rd⟩, true) = 1) := Lib.hid (by simp [pR, cB, cS, k1])
      clear k1
      obtain ⟨b12_0, b12_1, b12_2, b12_3⟩ := b12.c4
      have b12_z := b12.free
      have b12_l := b12.lt
      obtain ⟨b6_0, b6_1, b6_2, b6_3, b6_4, b6_5, b6_6, b6_7⟩ := b6.c8
      have b6_z := b6.free
      have b6_l := b6.lt
      go_wp2_with fail
      try clear b12_0 b12_1 b12_2 b12_3 b12_z b12_l b6_0 b6_1 b6_2 b6_3 b6_4 b6_5 b6_6 b6_7 b6_z b6_l
      have k6 := b6.kd
      have ne6 : g6 ≠ w3.heap.size := Nat.ne_of_lt l612
      refine ⟨⟨1, by omega, rfl, _, _, rfl, rfl, by (repeat (with_reducible (first | assumption | exact Below.refl _ _ | refine Below.setCell ?_ (by simp <;> omega) _ | refine Below.alloc ?_ (by simp <;> omega) _ | refine Below.drew ?_ | refine below_drewN ?_ _))), by (repeat (with_reducible (first | assumption | refine Box.alloc ?_ _ | refine Box.setOther ?_ (by simp <;> omega) _))), by (repeat (with_reducible (first | assumption | refine Box.alloc ?_ _ | refine Box.setOther ?_ (by simp <;> omega) _))), ⟨?_, ?_, .slice A5 n5 c5, ?_, ?_⟩, ?_⟩, ?_⟩
      ·rw [HSD.out]
       exact HR.out.2.1.symm
      ·rw [HSD.out]
       exact HR.out.2.2.symm
      ·rw [HSD.out, HR.out.1]
       exact put8a ((((b6.setOther ne6 _).setOther ne6 _).setOther ne6 _).setOther ne6 _)
      ·rw [HSD.out, HR.out.1]
       exact hu5.kept (T := []) (by (repeat (with_reducible (first | assumption | exact Kept.refl _ _ _ | (apply Kept.setK; rotate_left; (repeat (first | assumption | apply Kd.set | apply Kd.alloc | apply Kd.drew)); decide; omega) | refine Kept.allocK ?_ _ | refine Kept.drewK ?_))))
      ·exact h.kept (by (repeat (with_reducible (first | assumption | exact Kept.refl _ _ _ | (apply Kept.setK; rotate_left; (repeat (first | assumption | apply Kd.set | apply Kd.alloc | apply Kd.drew)); decide; omega) | refine Kept.allocK ?_ _ | refine Kept.drewK ?_))))
      ·simp only [intOf]
       omega
    | false =>
     have hq0 : (q5 != 0) = true := by simpa using hs2
     have HR : Hid (pR (⟨rk, ry, rv, rd⟩, false) = rFree ∧ cB (⟨rk, ry, rv, rd⟩, false) = 1 ∧ cS (⟨rk, ry, rv, rd⟩, false) = 0) := Lib.hid (by simp [pR, cB, cS, rFree])
     clear hs2
     obtain ⟨b12_0, b12_1, b12_2, b12_3⟩ := b12.c4
     have b12_z := b12.free
     have b12_l := b12.lt
     go_upto_region 12 with (fail)
     try clear b12_0 b12_1 b12_2 b12_3 b12_z b12_l
     generalize hwn : World.setCell (World.setCell (World.setCell (World.setCell w5 _ _) _ _) _ _) _ _ = w6
     have hx : Ext w w6 := by rw [← hwn]; (repeat (with_reducible (first | assumption | exact Below.refl _ _ | refine Below.setCell ?_ (by simp <;> omega) _ | refine Below.alloc ?_ (by simp <;> omega) _ | refine Below.drew ?_ | refine below_drewN ?_ _)))
     have b2 : Box w6 g2 30 #[.slice A n c, .slice E m e] := by rw [← hwn]; (repeat (with_reducible (first | assumption | refine Box.alloc ?_ _ | refine Box.setOther ?_ (by simp <;> omega) _)))
     have b5 : Box w6 g5 51 #[.int .i64 0, .int .i64 0, .int .i64 0, .slice none 0 0] := by rw [← hwn]; (repeat (with_reducible (first | assumption | refine Box.alloc ?_ _ | refine Box.setOther ?_ (by simp <;> omega) _)))
     have b6 : Box w6 g6 135 z8 := by rw [← hwn]; (repeat (with_reducible (first | assumption | refine Box.alloc ?_ _ | refine Box.setOther ?_ (by simp <;> omega) _)))
     have b12 : Box w6 w3.heap.size 51 #[.int .i64 rk, .int .i64 ry, .int .i64 rv, .slice A5 n5 c5] := by rw [← hwn]; exact (((b12.set 0 _).set 1 _).set 2 _).set 3 _
     have h := h.kept (w' := w6) (by rw [← hwn]; (repeat (with_reducible (first | assumption | exact Kept.refl _ _ _ | (apply Kept.setK; rotate_left; (repeat (first | assumption | apply Kd.set | apply Kd.alloc | apply Kd.drew)); decide; omega) | refine Kept.allocK ?_ _ | refine Kept.drewK ?_))))
     have hw := hw.kept (T := []) (w' := w6) (by rw [← hwn]; (repeat (with_reducible (first | assumption | exact Kept.refl _ _ _ | (apply Kept.setK; rotate_left; (repeat (first | assumption | apply Kd.set | apply Kd.alloc | apply Kd.drew)); decide; omega) | refine Kept.allocK ?_ _ | refine Kept.drewK ?_))))
     clear hwn k12
     go_wp2_with fail
     refine (free_w _).mono ?_
     rintro e7 w7 ⟨rfl, he⟩
     have hx := ext_trans hx he
     have b2 := b2.ext he
     have b5 := b5.ext he
     have b6 := b6.ext he
     have b12 := b12.ext he
     have h := h.ext he
     have hw := hw.ext he
     clear he hu5
     have hu5 := ByT.nil w7 0
     have k12 := b12.kd
     obtain ⟨b12_0, b12_1, b12_2, b12_3⟩ := b12.c4
     have b12_z := b12.free
     have b12_l := b12.lt
     obtain ⟨b6_0, b6_1, b6_2, b6_3, b6_4, b6_5, b6_6, b6_7⟩ := b6.c8
     have b6_z := b6.free
     have b6_l := b6.lt
     go_wp2_with fail
     try clear b12_0 b12_1 b12_2 b12_3 b12_z b12_l b6_0 b6_1 b6_2 b6_3 b6_4 b6_5 b6_6 b6_7 b6_z b6_l
     have k6 := b6.kd
     have ne6 : g6 ≠ w3.heap.size := Nat.ne_of_lt l612
     refine ⟨⟨1, by omega, rfl, _, _, rfl, rfl, by (repeat (with_reducible (first | assumption | exact Below.refl _ _ | refine Below.setCell ?_ (by simp <;> omega) _ | refine Below.alloc ?_ (by simp <;> omega) _ | refine Below.drew ?_ | refine below_drewN ?_ _))), by (repeat (with_reducible (first | assumption | refine Box.alloc ?_ _ | refine Box.setOther ?_ (by simp <;> omega) _))), by (repeat (with_reducible (first | assumption | refine Box.alloc ?_ _ | refine Box.setOther ?_ (by simp <;> omega) _))), ⟨?_, ?_, .slice none 0 0, ?_, ?_⟩, ?_⟩, ?_⟩
     ·rw [HSD.out]
      exact HR.out.2.1.symm
     ·rw [HSD.out]
      exact HR.out.2.2.symm
     ·rw [HSD.out, HR.out.1]
      exact put8a ((((b6.setOther ne6 _).setOther ne6 _).setOther ne6 _).setOther ne6 _)
     ·rw [HSD.out, HR.out.1]
      exact hu5.kept (T := []) (by (repeat (with_reducible (first | assumption | exact Kept.refl _ _ _ | (apply Kept.setK; rotate_left; (repeat (first | assumption | apply Kd.set | apply Kd.alloc | apply Kd.drew)); decide; omega) | refine Kept.allocK ?_ _ | refine Kept.drewK ?_))))
     ·exact h.kept (by (repeat (with_reducible (first | assumption | exact Kept.refl _ _ _ | (apply Kept.setK; rotate_left; (repeat (first | assumption | apply Kd.set | apply Kd.alloc | apply Kd.drew)); decide; omega) | refine Kept.allocK ?_ _ | refine Kept.drewK ?_))))
     ·simp only [intOf]
      omega
   ·obtain ⟨hnb, hns, u0, b6, hw⟩ := b6
    have n0 := cB_bd (pSide d (2 * p))
    have n1 := cS_bd (pSide d (2 * p))
    rw [← hnb] at n0
    rw [← hns] at n1
    have HNB := Lib.hid hnb
    have HNS := Lib.hid hns
    clear hnb hns
    obtain ⟨n00, n01⟩ := n0
    obtain ⟨n10, n11⟩ := n1
    rw [show ((1 : Nat) : Int) = 1 from rfl]
    obtain ⟨b2_0, b2_1⟩ := b2.c2
    have b2_z := b2.free
    have b2_l := b2.lt
    go_wp2_with fail
    refine (refGet_v (k := 2 * p + 1) h hk).mono ?_
    rintro e3 w3 ⟨v3, q3, rfl, hq3, hy3, he⟩
    try clear b2_0 b2_1 b2_z b2_l
    rw [dGet_zero d (2 * p + 1) (by omega) (by have := HN.out; omega)] at hq3
    subst hq3
    obtain ⟨A3, n3, c3, rfl, hy3, HN3⟩ := hy3.form
    have hx := ext_trans hx he
    have b2 := b2.ext he
    have b5 := b5.ext he
    have b6 := b6.ext he
    have h := h.ext he
    have hw := hw.ext he
    clear he
    have l612 : g6 < w3.heap.size := by have := b6.lt; omega
    go_upto_region 10 with (fail)
    generalize hwn : World.alloc w3 _ = w4
    have he : Ext w3 w4 := by rw [← hwn]; (repeat (with_reducible (first | assumption | exact Below.refl _ _ | refine Below.setCell ?_ (by simp <;> omega) _ | refine Below.alloc ?_ (by simp <;> omega) _ | refine Below.drew ?_ | refine below_drewN ?_ _)))
    have b12 : Box w4 w3.heap.size 51 #[.int .i64 0, .int .i64 0, .int .i64 0, .slice none 0 0] := by rw [← hwn]; exact Box.new _ _ _ (by simp)
    have hz3 := hx.size
    have hx := ext_trans hx he
    have b2 := b2.ext he
    have b5 := b5.ext he
    have b6 := b6.ext he
    have h := h.ext he
    have hw := hw.ext he
    have hy3 := hy3.ext he
    clear he hwn
    have hn3 : n3 ≤ blim := by have := hk.get (2 * p + 1); rw [blim_def, HN3.out]; omega
    go_wp2_with fail
    refine (refRead_w (l := (dGet d (2 * p + 1)).1) (k := 2 * p + 1) _ hy3 (Nat.le_refl _) hn3).mono ?_
    rintro e5 w5 ⟨v5, q5, rfl, hq5, hr5, he⟩
    obtain ⟨u5, rfl, hu5⟩ := (hr5.recV (base := 0))
    have hx := ext_trans hx he
    have b2 := b2.ext he
    have b5 := b5.ext he
    have b6 := b6.ext he
    have b12 := b12.ext he
    have h := h.ext he
    have hw := hw.ext he
    clear he hr5 hy3 hn3
    have hs1 : (rRead (dGet d (2 * p + 1)).1 (2 * p + 1)).1 = (pSide d (2 * p + 1)).1 := rfl
    have hs2 : decide (q5 = 0) = (pSide d (2 * p + 1)).2 := by rw [hq5]; rfl
    rw [hs1] at hu5 ⊢
    clear hq5 hs1
    obtain ⟨sd, hsd⟩ : ∃ s, pSide d (2 * p + 1) = s := ⟨_, rfl⟩
    rw [hsd] at hu5 hs2 ⊢
    have HSD := Lib.hid hsd
    clear hsd
    obtain ⟨⟨rk, ry, rv, rd⟩, sb⟩ := sd
    simp only at hu5 hs2 ⊢
    obtain ⟨A5, n5, c5, rfl, _, _⟩ := hu5.form
    have k12 := b12.kd
    cases sb with
    | true =>
     have hq0 : q5 = 0 := by simpa using hs2
     subst hq0
     clear hs2
     by_cases k1 : rk = 1
     ·subst k1
      have HR : Hid (pR (⟨1, ry, rv, rd⟩, true) = ⟨1, ry, rv, rd⟩ ∧ cB (⟨1, ry, rv, rd⟩, true) = 0 ∧ cS (⟨1, ry, rv, rd⟩, true) = 0) := Lib.hid (by simp [pR, cB, cS])
      obtain ⟨b12_0, b12_1, b12_2, b12_3⟩ := b12.c4
      have b12_z := b12.free
      have b12_l := b12.lt
      obtain ⟨b6_0, b6_1, b6_2, b6_3, b6_4, b6_5, b6_6, b6_7⟩ := b6.c8
      have b6_z := b6.free
      have b6_l := b6.lt
      go_wp2_with fail
      try clear b12_0 b12_1 b12_2 b12_3 b12_z b12_l b6_0 b6_1 b6_2 b6_3 b6_4 b6_5 b6_6 b6_7 b6_z b6_l
      have k6 := b6.kd
      have ne6 : g6 ≠ w3.heap.size := Nat.ne_of_lt l612
      refine ⟨⟨2, by omega, rfl, _, _, rfl, rfl, by (repeat (with_reducible (first | assumption | exact Below.refl _ _ | refine Below.setCell ?_ (by simp <;> omega) _ | refine Below.alloc ?_ (by simp <;> omega) _ | refine Below.drew ?_ | refine below_drewN ?_ _))), by (repeat (with_reducible (first | assumption | refine Box.alloc ?_ _ | refine Box.setOther ?_ (by simp <;> omega) _))), by (repeat (with_reducible (first | assumption | refine Box.alloc ?_ _ | refine Box.setOther ?_ (by simp <;> omega) _))), ⟨?_, ?_, u0, .slice A5 n5 c5, ?_, ?_, ?_⟩, ?_⟩, ?_⟩
      ·rw [HSD.out, HR.out.2.1, ← HNB.out]
       try rw [Int.add_zero]
      ·rw [HSD.out, HR.out.2.2, ← HNS.out]
       try rw [Int.add_zero]
      ·rw [HSD.out, HR.out.1]
       exact put8b ((((b6.setOther ne6 _).setOther ne6 _).setOther ne6 _).setOther ne6 _)
      ·exact hw.kept (T := []) (by (repeat (with_reducible (first | assumption | exact Kept.refl _ _ _ | (apply Kept.setK; rotate_left; (repeat (first | assumption | apply Kd.set | apply Kd.alloc | apply Kd.drew)); decide; omega) | refine Kept.allocK ?_ _ | refine Kept.drewK ?_))))
      ·rw [HSD.out, HR.out.1]
       exact hu5.kept (T := []) (by (repeat (with_reducible (first | assumption | exact Kept.refl _ _ _ | (apply Kept.setK; rotate_left; (repeat (first | assumption | apply Kd.set | apply Kd.alloc | apply Kd.drew)); decide; omega) | refine Kept.allocK ?_ _ | refine Kept.drewK ?_))))
      ·exact h.kept (by (repeat (with_reducible (first | assumption | exact Kept.refl _ _ _ | (apply Kept.setK; rotate_left; (repeat (first | assumption | apply Kd.set | apply Kd.alloc | apply Kd.drew)); decide; omega) | refine Kept.allocK ?_ _ | refine Kept.drewK ?_))))
      ·simp only [intOf]
       omega
     ·have q1 : (rk != 1) = true := by simpa using k1
      have HR : Hid (pR (⟨rk, ry, rv, rd⟩, true) = ⟨rk, ry, rv, rd⟩ ∧ cB (⟨rk, ry, rv, rd⟩, true) = 0 ∧ cS (⟨rk, ry, rv, rd⟩, true) = 1) := Lib.hid (by simp [pR, cB, cS, k1])
      clear k1
      obtain ⟨b12_0, b12_1, b12_2, b12_3⟩ := b12.c4
      have b12_z := b12.free
      have b12_l := b12.lt
      obtain ⟨b6_0, b6_1, b6_2, b6_3, b6_4, b6_5, b6_6, b6_7⟩ := b6.c8
      have b6_z := b6.free
      have b6_l := b6.lt
      go_wp2_with fail
      try clear b12_0 b12_1 b12_2 b12_3 b12_z b12_l b6_0 b6_1 b6_2 b6_3 b6_4 b6_5 b6_6 b6_7 b6_z b6_l
      have k6 := b6.kd
      have ne6 : g6 ≠ w3.heap.size := Nat.ne_of_lt l612
      refine ⟨⟨2, by omega, rfl, _, _, rfl, rfl, by (repeat (with_reducible (first | assumption | exact Below.refl _ _ | refine Below.setCell ?_ (by simp <;> omega) _ | refine Below.alloc ?_ (by simp <;> omega) _ | refine Below.drew ?_ | refine below_drewN ?_ _))), by (repeat (with_reducible (first | assumption | refine Box.alloc ?_ _ | refine Box.setOther ?_ (by simp <;> omega) _))), by (repeat (with_reducible (first | assumption | refine Box.alloc ?_ _ | refine Box.setOther ?_ (by simp <;> omega) _))), ⟨?_, ?_, u0, .slice A5 n5 c5, ?_, ?_, ?_⟩, ?_⟩, ?_⟩
      ·rw [HSD.out, HR.out.2.1, ← HNB.out]
       try rw [Int.add_zero]
      ·rw [HSD.out, HR.out.2.2, ← HNS.out]
       try rw [Int.add_zero]
      ·rw [HSD.out, HR.out.1]
       exact put8b ((((b6.setOther ne6 _).setOther ne6 _).setOther ne6 _).setOther ne6 _)
      ·exact hw.kept (T := []) (by (repeat (with_reducible (first | assumption | exact Kept.refl _ _ _ | (apply Kept.setK; rotate_left; (repeat (first | assumption | apply Kd.set | apply Kd.alloc | apply Kd.drew)); decide; omega) | refine Kept.allocK ?_ _ | refine Kept.drewK ?_))))
      ·rw [HSD.out, HR.out.1]
       exact hu5.kept (T := []) (by (repeat (with_reducible (first | assumption | exact Kept.refl _ _ _ | (apply Kept.setK; rotate_left; (repeat (first | assumption | apply Kd.set | apply Kd.alloc | apply Kd.drew)); decide; omega) | refine Kept.allocK ?_ _ | refine Kept.drewK ?_))))
      ·exact h.kept (by (repeat (with_reducible (first | assumption | exact Kept.refl _ _ _ | (apply Kept.setK; rotate_left; (repeat (first | assumption | apply Kd.set | apply Kd.alloc | apply Kd.drew)); decide; omega) | refine Kept.allocK ?_ _ | refine Kept.drewK ?_))))
      ·simp only [intOf]
       omega
    | false =>
     have hq0 : (q5 != 0) = true := by simpa using hs2
     have HR : Hid (pR (⟨rk, ry, rv, rd⟩, false) = rFree ∧ cB (⟨rk, ry, rv, rd⟩, false) = 1 ∧ cS (⟨rk, ry, rv, rd⟩, false) = 0) := Lib.hid (by simp [pR, cB, cS, rFree])
     clear hs2
     obtain ⟨b12_0, b12_1, b12_2, b12_3⟩ := b12.c4
     have b12_z := b12.free
     have b12_l := b12.lt
     go_upto_region 12 with (fail)
     try clear b12_0 b12_1 b12_2 b12_3 b12_z b12_l
     generalize hwn : World.setCell (World.setCell (World.setCell (World.setCell w5 _ _) _ _) _ _) _ _ = w6
     have hx : Ext w w6 := by rw [← hwn]; (repeat (with_reducible (first | assumption | exact Below.refl _ _ | refine Below.setCell ?_ (by simp <;> omega) _ | refine Below.alloc ?_ (by simp <;> omega) _ | refine Below.drew ?_ | refine below_drewN ?_ _)))
     have b2 : Box w6 g2 30 #[.slice A n c, .slice E m e] := by rw [← hwn]; (repeat (with_reducible (first | assumption | refine Box.alloc ?_ _ | refine Box.setOther ?_ (by simp <;> omega) _)))
     have b5 : Box w6 g5 51 #[.int .i64 0, .int .i64 0, .int .i64 0, .slice none 0 0] := by rw [← hwn]; (repeat (with_reducible (first | assumption | refine Box.alloc ?_ _ | refine Box.setOther ?_ (by simp <;> omega) _)))
     have b6 : Box w6 g6 135 #[.int .i64 (pR (pSide d (2 * p))).kind, .int .i64 (pR (pSide d (2 * p))).key, .int .i64 (pR (pSide d (2 * p))).ver, u0, .int .i64 0, .int .i64 0, .int .i64 0, .slice none 0 0] := by rw [← hwn]; (repeat (with_reducible (first | assumption | refine Box.alloc ?_ _ | refine Box.setOther ?_ (by simp <;> omega) _)))
     have b12 : Box w6 w3.heap.size 51 #[.int .i64 rk, .int .i64 ry, .int .i64 rv, .slice A5 n5 c5] := by rw [← hwn]; exact (((b12.set 0 _).set 1 _).set 2 _).set 3 _
     have h := h.kept (w' := w6) (by rw [← hwn]; (repeat (with_reducible (first | assumption | exact Kept.refl _ _ _ | (apply Kept.setK; rotate_left; (repeat (first | assumption | apply Kd.set | apply Kd.alloc | apply Kd.drew)); decide; omega) | refine Kept.allocK ?_ _ | refine Kept.drewK ?_))))
     have hw := hw.kept (T := []) (w' := w6) (by rw [← hwn]; (repeat (with_reducible (first | assumption | exact Kept.refl _ _ _ | (apply Kept.setK; rotate_left; (repeat (first | assumption | apply Kd.set | apply Kd.alloc | apply Kd.drew)); decide; omega) | refine Kept.allocK ?_ _ | refine Kept.drewK ?_))))
     clear hwn k12
     go_wp2_with fail
     refine (free_w _).mono ?_
     rintro e7 w7 ⟨rfl, he⟩
     have hx := ext_trans hx he
     have b2 := b2.ext he
     have b5 := b5.ext he
     have b6 := b6.ext he
     have b12 := b12.ext he
     have h := h.ext he
     have hw := hw.ext he
     clear he hu5
     have hu5 := ByT.nil w7 0
     have k12 := b12.kd
     obtain ⟨b12_0, b12_1, b12_2, b12_3⟩ := b12.c4
     have b12_z := b12.free
     have b12_l := b12.lt
     obtain ⟨b6_0, b6_1, b6_2, b6_3, b6_4, b6_5, b6_6, b6_7⟩ := b6.c8
     have b6_z := b6.free
     have b6_l := b6.lt
     go_wp2_with fail
     try clear b12_0 b12_1 b12_2 b12_3 b12_z b12_l b6_0 b6_1 b6_2 b6_3 b6_4 b6_5 b6_6 b6_7 b6_z b6_l
     have k6 := b6.kd
     have ne6 : g6 ≠ w3.heap.size := Nat.ne_of_lt l612
     refine ⟨⟨2, by omega, rfl, _, _, rfl, rfl, by (repeat (with_reducible (first | assumption | exact Below.refl _ _ | refine Below.setCell ?_ (by simp <;> omega) _ | refine Below.alloc ?_ (by simp <;> omega) _ | refine Below.drew ?_ | refine below_drewN ?_ _))), by (repeat (with_reducible (first | assumption | refine Box.alloc ?_ _ | refine Box.setOther ?_ (by simp <;> omega) _))), by (repeat (with_reducible (first | assumption | refine Box.alloc ?_ _ | refine Box.setOther ?_ (by simp <;> omega) _))), ⟨?_, ?_, u0, .slice none 0 0, ?_, ?_, ?_⟩, ?_⟩, ?_⟩
     ·rw [HSD.out, HR.out.2.1, ← HNB.out]
      try rw [Int.add_zero]
     ·rw [HSD.out, HR.out.2.2, ← HNS.out]
      try rw [Int.add_zero]
     ·rw [HSD.out, HR.out.1]
      exact put8b ((((b6.setOther ne6 _).setOther ne6 _).setOther ne6 _).setOther ne6 _)
     ·exact hw.kept (T := []) (by (repeat (with_reducible (first | assumption | exact Kept.refl _ _ _ | (apply Kept.setK; rotate_left; (repeat (first | assumption | apply Kd.set | apply Kd.alloc | apply Kd.drew)); decide; omega) | refine Kept.allocK ?_ _ | refine Kept.drewK ?_))))
     ·rw [HSD.out, HR.out.1]
      exact hu5.kept (T := []) (by (repeat (with_reducible (first | assumption | exact Kept.refl _ _ _ | (apply Kept.setK; rotate_left; (repeat (first | assumption | apply Kd.set | apply Kd.alloc | apply Kd.drew)); decide; omega) | refine Kept.allocK ?_ _ | refine Kept.drewK ?_))))
     ·exact h.kept (by (repeat (with_reducible (first | assumption | exact Kept.refl _ _ _ | (apply Kept.setK; rotate_left; (repeat (first | assumption | apply Kd.set | apply Kd.alloc | apply Kd.drew)); decide; omega) | refine Kept.allocK ?_ _ | refine Kept.drewK ?_))))
     ·simp only [intOf]
      omega
   ·obtain ⟨hnb, hns, u0, u1, b6, hu0, hu1⟩ := b6
    have HP := Lib.hid (pLook_r d p PI.out)
    clear h b2
    generalize pSide d (2 * p) = s0 at hnb hns b6 hu0 hu1 HP
    generalize pSide d (2 * p + 1) = s1 at hnb hns b6 hu0 hu1 HP
    have n0 := cB_bd s0
    have n1 := cB_bd s1
    have HQ := Lib.hid (rHow_def s0 s1)
    unfold cS at hns
    obtain ⟨r0, hr0⟩ : ∃ r, pR s0 = r := ⟨_, rfl⟩
    obtain ⟨r1, hr1⟩ : ∃ r, pR s1 = r := ⟨_, rfl⟩
    rw [hr0] at hns b6 hu0 HQ
    rw [hr1] at hns b6 hu1 HQ
    clear hr0 hr1
    obtain ⟨A4, n4, c4, rfl, _, _⟩ := hu0.form
    obtain ⟨A5, n5, c5, rfl, _, _⟩ := hu1.form
    obtain ⟨b6_0, b6_1, b6_2, b6_3, b6_4, b6_5, b6_6, b6_7⟩ := b6.c8
    have b6_z := b6.free
    have b6_l := b6.lt
    go_upto_region 20 with (fail)
    try clear b6_0 b6_1 b6_2 b6_3 b6_4 b6_5 b6_6 b6_7 b6_z b6_l
    generalize hwn : World.alloc wr _ = w9
    have he : Ext wr w9 := by rw [← hwn]; exact ext_alloc _ _
    have b14 : Box w9 wr.heap.size 51 #[.int .i64 r0.kind, .int .i64 r0.key, .int .i64 r0.ver, .slice A4 n4 c4] := by rw [← hwn]; exact Box.new _ _ _ (by simp)
    have hz := hx.size
    have l14 := b5.lt
    have hx := ext_trans hx he
    have b5 := b5.ext he
    have b6 := b6.ext he
    have hu0 := hu0.ext he
    have hu1 := hu1.ext he
    clear hwn he
    by_cases k0 : r0.kind = 1
    ·by_cases k1 : r1.kind = 1
     ·rw [if_neg (by simp [k0]), if_neg (by simp [k0]), if_neg (by simp [k1])] at HQ
      rw [if_pos k0, if_pos k1] at hns
      obtain rfl : ns = 0 := hns
      have q0 : (r0.kind == 1) = true := by simpa using k0
      clear k0 k1
      have k14 := b14.kd
      obtain ⟨b6_0, b6_1, b6_2, b6_3, b6_4, b6_5, b6_6, b6_7⟩ := b6.c8
      have b6_z := b6.free
      have b6_l := b6.lt
      obtain ⟨b14_0, b14_1, b14_2, b14_3⟩ := b14.c4
      have b14_z := b14.free
      have b14_l := b14.lt
      go_upto_region 22 with (fail)
      try clear b6_0 b6_1 b6_2 b6_3 b6_4 b6_5 b6_6 b6_7 b6_z b6_l b14_0 b14_1 b14_2 b14_3 b14_z b14_l
      generalize hwn : World.setCell (World.setCell (World.setCell (World.setCell w9 _ _) _ _) _ _) _ _ = w10
      have hx : Ext w w10 := by rw [← hwn]; (repeat (with_reducible (first | assumption | exact Below.refl _ _ | refine Below.setCell ?_ (by simp <;> omega) _ | refine Below.alloc ?_ (by simp <;> omega) _ | refine Below.drew ?_ | refine below_drewN ?_ _)))
      have b5 : Box w10 g5 51 #[.int .i64 0, .int .i64 0, .int .i64 0, .slice none 0 0] := by rw [← hwn]; (repeat (with_reducible (first | assumption | refine Box.alloc ?_ _ | refine Box.setOther ?_ (by simp <;> omega) _)))
      clear hwn b14 b6 hu0 hu1 k14 q0
      have hb : nb = 0 ∨ nb = 1 ∨ nb = 2 := by omega
      rw [← hnb] at HQ
      clear hnb n0 n1
      obtain ⟨w9, hw9⟩ : ∃ w, w = w10 := ⟨_, rfl⟩
      rw [← hw9] at hx b5 ⊢
      clear hw9
      rcases hb with hb | hb | hb
      ·skip
       obtain rfl : nb = 0 := hb
       go_upto_region 28 with (fail)
       have hx := hx.drew
       have b5 := b5.drew
       refine wp_region_ue 7 [] [1, 2, 3, 5] rfl (by kernel_rfl) (by kernel_rfl) ?_
       generalize w9.drew = D at hx b5 ⊢
       apply uF 1 (by kernel_rfl) (by rfl) (by rfl) (by rfl)
       ·(intro w' hx; go_simp <;> with_reducible rfl)
       simp only [pA, pB, pC, pD]
       refine uS2 0 4 (by kernel_rfl) (by kernel_rfl) (by rfl) (by rfl) (by rfl) (by rfl) (fun K hK => ?_) (fun K hK => ?_)
       ·go_wp2
        refine hK.out _ _ (ext_alloc _ _) ?_
        clear hK K
        try simp only [pA, pB, pC, pD]
        generalize hwn : World.alloc D _ = D2
        have he : Ext D D2 := by rw [← hwn]; exact ext_alloc _ _
        have b90 : Box D2 D.heap.size 3 #[.int .i64 0, .int .i64 3, .int .i64 4] := by rw [← hwn]; exact Box.new _ _ _ (by simp)
        have hx := ext_trans hx he
        have b5 := b5.ext he
        clear he hwn
        apply uF 2 (by kernel_rfl) (by rfl) (by rfl) (by rfl)
        ·(intro w' hx; obtain ⟨z0, z1, z2⟩ := (b90.ext hx).c3; go_simp <;> with_reducible rfl)
        simp only [pA, pB, pC, pD]
        apply uF 3 (by kernel_rfl) (by rfl) (by rfl) (by rfl)
        ·(intro w' hx; obtain ⟨z0, z1, z2⟩ := (b90.ext hx).c3; go_simp <;> with_reducible rfl)
        simp only [pA, pB, pC, pD]
        refine uS 4 (by kernel_rfl) (by kernel_rfl) (by rfl) (by rfl) (fun K hK => ?_)
        go_wp2_with (go_at_call 88; refine (free_w _).mono ?_; rintro e w8 ⟨rfl, he⟩)
        refine hK.out _ _ (he) ?_
        clear hK K
        try simp only [pA, pB, pC, pD]
        have hx := ext_trans hx he
        have b5 := b5.ext he
        apply uF 5 (by kernel_rfl) (by rfl) (by rfl) (by rfl)
        ·(intro w' hx; go_simp <;> with_reducible rfl)
        simp only [pA, pB, pC, pD]
        refine uL 6 (by kernel_rfl) (by kernel_rfl) (by kernel_rfl) (by rfl) (by rfl) (fun K hK => ?_)
        have hK' := Lib.hid hK
        clear hK
        obtain ⟨b5_0, b5_1, b5_2, b5_3⟩ := b5.c4
        have b5_z := b5.free
        have b5_l := b5.lt
        have k5 := b5.kd
        go_wp2
        refine hK'.out _ _ ?_
        clear hK' K
        refine uEnd (by kernel_rfl) ?_
        go_wp2_with fail
        ((try simp only [Exit.inBlock, Exit.then]); refine bodyPost_ret (v := ?_) ?resultOf rfl ?_; case resultOf => (rw [results_tc rfl]; go_simp; rfl))
        exact ⟨_, by rw [HP.out, HQ.out]; rfl, by rw [HP.out, HQ.out]; exact RecV.free _ _, by (repeat (with_reducible (first | assumption | exact Below.refl _ _ | refine Below.setCell ?_ (by simp <;> omega) _ | refine Below.alloc ?_ (by simp <;> omega) _ | refine Below.drew ?_ | refine below_drewN ?_ _)))⟩
       ·go_wp2_with fail
        refine (free_w _).mono ?_
        rintro e3 w8 ⟨rfl, he⟩
        refine hK.out _ _ he ?_
        clear hK K
        try simp only [pA, pB, pC, pD]
        have hx := ext_trans hx he
        have b5 := b5.ext he
        refine uS 0 (by kernel_rfl) (by kernel_rfl) (by rfl) (by rfl) (fun K hK => ?_)
        go_wp2
        refine hK.out _ _ (ext_alloc _ _) ?_
        clear hK K
        try simp only [pA, pB, pC, pD]
        generalize hwn : World.alloc w8 _ = D2
        have he : Ext w8 D2 := by rw [← hwn]; exact ext_alloc _ _
        have b90 : Box D2 w8.heap.size 3 #[.int .i64 0, .int .i64 3, .int .i64 4] := by rw [← hwn]; exact Box.new _ _ _ (by simp)
        have hx := ext_trans hx he
        have b5 := b5.ext he
        clear he hwn
        apply uF 2 (by kernel_rfl) (by rfl) (by rfl) (by rfl)
        ·(intro w' hx; obtain ⟨z0, z1, z2⟩ := (b90.ext hx).c3; go_simp <;> with_reducible rfl)
        simp only [pA, pB, pC, pD]
        apply uF 3 (by kernel_rfl) (by rfl) (by rfl) (by rfl)
        ·(intro w' hx; obtain ⟨z0, z1, z2⟩ := (b90.ext hx).c3; go_simp <;> with_reducible rfl)
        simp only [pA, pB, pC, pD]
        apply uF 5 (by kernel_rfl) (by rfl) (by rfl) (by rfl)
        ·(intro w' hx; obtain ⟨z0, z1, z2⟩ := (b90.ext hx).c3; go_simp <;> with_reducible rfl)
        simp only [pA, pB, pC, pD]
        refine uL 6 (by kernel_rfl) (by kernel_rfl) (by kernel_rfl) (by rfl) (by rfl) (fun K hK => ?_)
        have hK' := Lib.hid hK
        clear hK
        obtain ⟨b5_0, b5_1, b5_2, b5_3⟩ := b5.c4
        have b5_z := b5.free
        have b5_l := b5.lt
        have k5 := b5.kd
        go_wp2
        refine hK'.out _ _ ?_
        clear hK' K
        refine uEnd (by kernel_rfl) ?_
        go_wp2_with fail
        ((try simp only [Exit.inBlock, Exit.then]); refine bodyPost_ret (v := ?_) ?resultOf rfl ?_; case resultOf => (rw [results_tc rfl]; go_simp; rfl))
        exact ⟨_, by rw [HP.out, HQ.out]; rfl, by rw [HP.out, HQ.out]; exact RecV.free _ _, by (repeat (with_reducible (first | assumption | exact Below.refl _ _ | refine Below.setCell ?_ (by simp <;> omega) _ | refine Below.alloc ?_ (by simp <;> omega) _ | refine Below.drew ?_ | refine below_drewN ?_ _)))⟩
      ·skip
       obtain rfl : nb = 1 := hb
       go_upto_region 28 with (fail)
       try clear b5_0 b5_1 b5_2 b5_3 b5_z b5_l b5_0 b5_1 b5_2 b5_3 b5_z b5_l
       have hx := hx.drew
       have b5 := b5.drew
       refine wp_region_ue 7 [] [1, 2, 3, 5] rfl (by kernel_rfl) (by kernel_rfl) ?_
       generalize w9.drew = D at hx b5 ⊢
       apply uF 1 (by kernel_rfl) (by rfl) (by rfl) (by rfl)
       ·(intro w' hx; go_simp <;> with_reducible rfl)
       simp only [pA, pB, pC, pD]
       refine uS2 0 4 (by kernel_rfl) (by kernel_rfl) (by rfl) (by rfl) (by rfl) (by rfl) (fun K hK => ?_) (fun K hK => ?_)
       ·go_wp2
        refine hK.out _ _ (ext_alloc _ _) ?_
        clear hK K
        try simp only [pA, pB, pC, pD]
        generalize hwn : World.alloc D _ = D2
        have he : Ext D D2 := by rw [← hwn]; exact ext_alloc _ _
        have b90 : Box D2 D.heap.size 3 #[.int .i64 0, .int .i64 3, .int .i64 4] := by rw [← hwn]; exact Box.new _ _ _ (by simp)
        have hx := ext_trans hx he
        have b5 := b5.ext he
        clear he hwn
        apply uF 2 (by kernel_rfl) (by rfl) (by rfl) (by rfl)
        ·(intro w' hx; obtain ⟨z0, z1, z2⟩ := (b90.ext hx).c3; go_simp <;> with_reducible rfl)
        simp only [pA, pB, pC, pD]
        apply uF 3 (by kernel_rfl) (by rfl) (by rfl) (by rfl)
        ·(intro w' hx; obtain ⟨z0, z1, z2⟩ := (b90.ext hx).c3; go_simp <;> with_reducible rfl)
        simp only [pA, pB, pC, pD]
        refine uS 4 (by kernel_rfl) (by kernel_rfl) (by rfl) (by rfl) (fun K hK => ?_)
        go_wp2_with (go_at_call 88; refine (free_w _).mono ?_; rintro e w8 ⟨rfl, he⟩)
        refine hK.out _ _ (he) ?_
        clear hK K
        try simp only [pA, pB, pC, pD]
        have hx := ext_trans hx he
        have b5 := b5.ext he
        apply uF 5 (by kernel_rfl) (by rfl) (by rfl) (by rfl)
        ·(intro w' hx; go_simp <;> with_reducible rfl)
        simp only [pA, pB, pC, pD]
        refine uL 6 (by kernel_rfl) (by kernel_rfl) (by kernel_rfl) (by rfl) (by rfl) (fun K hK => ?_)
        have hK' := Lib.hid hK
        clear hK
        obtain ⟨b5_0, b5_1, b5_2, b5_3⟩ := b5.c4
        have b5_z := b5.free
        have b5_l := b5.lt
        have k5 := b5.kd
        go_wp2
        refine hK'.out _ _ ?_
        clear hK' K
        refine uEnd (by kernel_rfl) ?_
        go_wp2_with fail
        ((try simp only [Exit.inBlock, Exit.then]); refine bodyPost_ret (v := ?_) ?resultOf rfl ?_; case resultOf => (rw [results_tc rfl]; go_simp; rfl))
        exact ⟨_, by rw [HP.out, HQ.out]; rfl, by rw [HP.out, HQ.out]; exact RecV.free _ _, by (repeat (with_reducible (first | assumption | exact Below.refl _ _ | refine Below.setCell ?_ (by simp <;> omega) _ | refine Below.alloc ?_ (by simp <;> omega) _ | refine Below.drew ?_ | refine below_drewN ?_ _)))⟩
       ·go_wp2_with fail
        refine (free_w _).mono ?_
        rintro e3 w8 ⟨rfl, he⟩
        refine hK.out _ _ he ?_
        clear hK K
        try simp only [pA, pB, pC, pD]
        have hx := ext_trans hx he
        have b5 := b5.ext he
        refine uS 0 (by kernel_rfl) (by kernel_rfl) (by rfl) (by rfl) (fun K hK => ?_)
        go_wp2
        refine hK.out _ _ (ext_alloc _ _) ?_
        clear hK K
        try simp only [pA, pB, pC, pD]
        generalize hwn : World.alloc w8 _ = D2
        have he : Ext w8 D2 := by rw [← hwn]; exact ext_alloc _ _
        have b90 : Box D2 w8.heap.size 3 #[.int .i64 0, .int .i64 3, .int .i64 4] := by rw [← hwn]; exact Box.new _ _ _ (by simp)
        have hx := ext_trans hx he
        have b5 := b5.ext he
        clear he hwn
        apply uF 2 (by kernel_rfl) (by rfl) (by rfl) (by rfl)
        ·(intro w' hx; obtain ⟨z0, z1, z2⟩ := (b90.ext hx).c3; go_simp <;> with_reducible rfl)
        simp only [pA, pB, pC, pD]
        apply uF 3 (by kernel_rfl) (by rfl) (by rfl) (by rfl)
        ·(intro w' hx; obtain ⟨z0, z1, z2⟩ := (b90.ext hx).c3; go_simp <;> with_reducible rfl)
        simp only [pA, pB, pC, pD]
        apply uF 5 (by kernel_rfl) (by rfl) (by rfl) (by rfl)
        ·(intro w' hx; obtain ⟨z0, z1, z2⟩ := (b90.ext hx).c3; go_simp <;> with_reducible rfl)
        simp only [pA, pB, pC, pD]
        refine uL 6 (by kernel_rfl) (by kernel_rfl) (by kernel_rfl) (by rfl) (by rfl) (fun K hK => ?_)
        have hK' := Lib.hid hK
        clear hK
        obtain ⟨b5_0, b5_1, b5_2, b5_3⟩ := b5.c4
        have b5_z := b5.free
        have b5_l := b5.lt
        have k5 := b5.kd
        go_wp2
        refine hK'.out _ _ ?_
        clear hK' K
        refine uEnd (by kernel_rfl) ?_
        go_wp2_with fail
        ((try simp only [Exit.inBlock, Exit.then]); refine bodyPost_ret (v := ?_) ?resultOf rfl ?_; case resultOf => (rw [results_tc rfl]; go_simp; rfl))
        exact ⟨_, by rw [HP.out, HQ.out]; rfl, by rw [HP.out, HQ.out]; exact RecV.free _ _, by (repeat (with_reducible (first | assumption | exact Below.refl _ _ | refine Below.setCell ?_ (by simp <;> omega) _ | refine Below.alloc ?_ (by simp <;> omega) _ | refine Below.drew ?_ | refine below_drewN ?_ _)))⟩
      ·skip
       obtain rfl : nb = 2 := hb
       go_upto_region 28 with (fail)
       try clear b5_0 b5_1 b5_2 b5_3 b5_z b5_l b5_0 b5_1 b5_2 b5_3 b5_z b5_l
       have hx := hx.drew
       have b5 := b5.drew
       refine wp_region_ue 7 [] [1, 2, 3, 5] rfl (by kernel_rfl) (by kernel_rfl) ?_
       generalize w9.drew = D at hx b5 ⊢
       apply uF 1 (by kernel_rfl) (by rfl) (by rfl) (by rfl)
       ·(intro w' hx; go_simp <;> with_reducible rfl)
       simp only [pA, pB, pC, pD]
       refine uS2 0 4 (by kernel_rfl) (by kernel_rfl) (by rfl) (by rfl) (by rfl) (by rfl) (fun K hK => ?_) (fun K hK => ?_)
       ·go_wp2
        refine hK.out _ _ (ext_alloc _ _) ?_
        clear hK K
        try simp only [pA, pB, pC, pD]
        generalize hwn : World.alloc D _ = D2
        have he : Ext D D2 := by rw [← hwn]; exact ext_alloc _ _
        have b90 : Box D2 D.heap.size 3 #[.int .i64 0, .int .i64 3, .int .i64 4] := by rw [← hwn]; exact Box.new _ _ _ (by simp)
        have hx := ext_trans hx he
        have b5 := b5.ext he
        clear he hwn
        apply uF 2 (by kernel_rfl) (by rfl) (by rfl) (by rfl)
        ·(intro w' hx; obtain ⟨z0, z1, z2⟩ := (b90.ext hx).c3; go_simp <;> with_reducible rfl)
        simp only [pA, pB, pC, pD]
        apply uF 3 (by kernel_rfl) (by rfl) (by rfl) (by rfl)
        ·(intro w' hx; obtain ⟨z0, z1, z2⟩ := (b90.ext hx).c3; go_simp <;> with_reducible rfl)
        simp only [pA, pB, pC, pD]
        refine uS 4 (by kernel_rfl) (by kernel_rfl) (by rfl) (by rfl) (fun K hK => ?_)
        go_wp2_with (go_at_call 88; refine (free_w _).mono ?_; rintro e w8 ⟨rfl, he⟩)
        refine hK.out _ _ (he) ?_
        clear hK K
        try simp only [pA, pB, pC, pD]
        have hx := ext_trans hx he
        have b5 := b5.ext he
        apply uF 5 (by kernel_rfl) (by rfl) (by rfl) (by rfl)
        ·(intro w' hx; go_simp <;> with_reducible rfl)
        simp only [pA, pB, pC, pD]
        refine uL 6 (by kernel_rfl) (by kernel_rfl) (by kernel_rfl) (by rfl) (by rfl) (fun K hK => ?_)
        have hK' := Lib.hid hK
        clear hK
        obtain ⟨b5_0, b5_1, b5_2, b5_3⟩ := b5.c4
        have b5_z := b5.free
        have b5_l := b5.lt
        have k5 := b5.kd
        go_wp2
        refine hK'.out _ _ ?_
        clear hK' K
        refine uEnd (by kernel_rfl) ?_
        go_wp2_with fail
        ((try simp only [Exit.inBlock, Exit.then]); refine bodyPost_ret (v := ?_) ?resultOf rfl ?_; case resultOf => (rw [results_tc rfl]; go_simp; rfl))
        exact ⟨_, by rw [HP.out, HQ.out]; rfl, by rw [HP.out, HQ.out]; exact RecV.free _ _, by (repeat (with_reducible (first | assumption | exact Below.refl _ _ | refine Below.setCell ?_ (by simp <;> omega) _ | refine Below.alloc ?_ (by simp <;> omega) _ | refine Below.drew ?_ | refine below_drewN ?_ _)))⟩
       ·go_wp2_with fail
        refine (free_w _).mono ?_
        rintro e3 w8 ⟨rfl, he⟩
        refine hK.out _ _ he ?_
        clear hK K
        try simp only [pA, pB, pC, pD]
        have hx := ext_trans hx he
        have b5 := b5.ext he
        refine uS 0 (by kernel_rfl) (by kernel_rfl) (by rfl) (by rfl) (fun K hK => ?_)
        go_wp2
        refine hK.out _ _ (ext_alloc _ _) ?_
        clear hK K
        try simp only [pA, pB, pC, pD]
        generalize hwn : World.alloc w8 _ = D2
        have he : Ext w8 D2 := by rw [← hwn]; exact ext_alloc _ _
        have b90 : Box D2 w8.heap.size 3 #[.int .i64 0, .int .i64 3, .int .i64 4] := by rw [← hwn]; exact Box.new _ _ _ (by simp)
        have hx := ext_trans hx he
        have b5 := b5.ext he
        clear he hwn
        apply uF 2 (by kernel_rfl) (by rfl) (by rfl) (by rfl)
        ·(intro w' hx; obtain ⟨z0, z1, z2⟩ := (b90.ext hx).c3; go_simp <;> with_reducible rfl)
        simp only [pA, pB, pC, pD]
        apply uF 3 (by kernel_rfl) (by rfl) (by rfl) (by rfl)
        ·(intro w' hx; obtain ⟨z0, z1, z2⟩ := (b90.ext hx).c3; go_simp <;> with_reducible rfl)
        simp only [pA, pB, pC, pD]
        apply uF 5 (by kernel_rfl) (by rfl) (by rfl) (by rfl)
        ·(intro w' hx; obtain ⟨z0, z1, z2⟩ := (b90.ext hx).c3; go_simp <;> with_reducible rfl)
        simp only [pA, pB, pC, pD]
        refine uL 6 (by kernel_rfl) (by kernel_rfl) (by kernel_rfl) (by rfl) (by rfl) (fun K hK => ?_)
        have hK' := Lib.hid hK
        clear hK
        obtain ⟨b5_0, b5_1, b5_2, b5_3⟩ := b5.c4
        have b5_z := b5.free
        have b5_l := b5.lt
        have k5 := b5.kd
        go_wp2
        refine hK'.out _ _ ?_
        clear hK' K
        refine uEnd (by kernel_rfl) ?_
        go_wp2_with fail
        ((try simp only [Exit.inBlock, Exit.then]); refine bodyPost_ret (v := ?_) ?resultOf rfl ?_; case resultOf => (rw [results_tc rfl]; go_simp; rfl))
        exact ⟨_, by rw [HP.out, HQ.out]; rfl, by rw [HP.out, HQ.out]; exact RecV.free _ _, by (repeat (with_reducible (first | assumption | exact Below.refl _ _ | refine Below.setCell ?_ (by simp <;> omega) _ | refine Below.alloc ?_ (by simp <;> omega) _ | refine Below.drew ?_ | refine below_drewN ?_ _)))⟩
     ·rw [if_neg (by simp [k0]), if_neg (by simp [k0]), if_pos k1] at HQ
      rw [if_pos k0, if_neg k1] at hns
      obtain rfl : ns = 1 := hns
      have q0 : (r0.kind == 1) = true := by simpa using k0
      clear k0 k1
      have k14 := b14.kd
      obtain ⟨b6_0, b6_1, b6_2, b6_3, b6_4, b6_5, b6_6, b6_7⟩ := b6.c8
      have b6_z := b6.free
      have b6_l := b6.lt
      obtain ⟨b14_0, b14_1, b14_2, b14_3⟩ := b14.c4
      have b14_z := b14.free
      have b14_l := b14.lt
      go_upto_region 22 with (fail)
      try clear b5_0 b5_1 b5_2 b5_3 b5_z b5_l b5_0 b5_1 b5_2 b5_3 b5_z b5_l b6_0 b6_1 b6_2 b6_3 b6_4 b6_5 b6_6 b6_7 b6_z b6_l b14_0 b14_1 b14_2 b14_3 b14_z b14_l
      generalize hwn : World.setCell (World.setCell (World.setCell (World.setCell w9 _ _) _ _) _ _) _ _ = w10
      have hx : Ext w w10 := by rw [← hwn]; (repeat (with_reducible (first | assumption | exact Below.refl _ _ | refine Below.setCell ?_ (by simp <;> omega) _ | refine Below.alloc ?_ (by simp <;> omega) _ | refine Below.drew ?_ | refine below_drewN ?_ _)))
      have b5 : Box w10 g5 51 #[.int .i64 0, .int .i64 0, .int .i64 0, .slice none 0 0] := by rw [← hwn]; (repeat (with_reducible (first | assumption | refine Box.alloc ?_ _ | refine Box.setOther ?_ (by simp <;> omega) _)))
      have b14 : Box w10 wr.heap.size 51 #[.int .i64 r1.kind, .int .i64 r1.key, .int .i64 r1.ver, .slice A5 n5 c5] := by rw [← hwn]; exact (((b14.set 0 _).set 1 _).set 2 _).set 3 _
      have hu0 := hu0.kept (T := []) (w' := w10) (by rw [← hwn]; (repeat (with_reducible (first | assumption | exact Kept.refl _ _ _ | (apply Kept.setK; rotate_left; (repeat (first | assumption | apply Kd.set | apply Kd.alloc | apply Kd.drew)); decide; omega) | refine Kept.allocK ?_ _ | refine Kept.drewK ?_))))
      have hu1 := hu1.kept (T := []) (w' := w10) (by rw [← hwn]; (repeat (with_reducible (first | assumption | exact Kept.refl _ _ _ | (apply Kept.setK; rotate_left; (repeat (first | assumption | apply Kd.set | apply Kd.alloc | apply Kd.drew)); decide; omega) | refine Kept.allocK ?_ _ | refine Kept.drewK ?_))))
      clear hwn b6 k14 q0
      obtain ⟨b14_0, b14_1, b14_2, b14_3⟩ := b14.c4
      have b14_z := b14.free
      have b14_l := b14.lt
      go_upto_region 27 with (fail)
      try clear b14_0 b14_1 b14_2 b14_3 b14_z b14_l
      have hx := hx.drew
      have b5 := b5.drew
      have b14 := b14.drew
      have hu0 := hu0.ext ((Below.refl _ _).drew)
      have hu1 := hu1.ext ((Below.refl _ _).drew)
      refine wp_region_ue 3 [] [0, 1] rfl (by kernel_rfl) (by kernel_rfl) ?_
      obtain ⟨D, hD⟩ : ∃ D, D = World.drew w10 := ⟨_, rfl⟩
      rw [← hD] at hx b5 b14 hu0 hu1 ⊢
      clear hD
      apply uF 0 (by kernel_rfl) (by rfl) (by rfl) (by rfl)
      ·(intro w' hx; obtain ⟨x0, x1, x2, x3⟩ := (b14.ext hx).c4; go_simp <;> with_reducible rfl)
      simp only [pA, pB, pC, pD]
      apply uF 1 (by kernel_rfl) (by rfl) (by rfl) (by rfl)
      ·(intro w' hx; go_simp <;> with_reducible rfl)
      simp only [pA, pB, pC, pD]
      refine uL 2 (by kernel_rfl) (by kernel_rfl) (by kernel_rfl) (by rfl) (by rfl) (fun K hK => ?_)
      have hK' := Lib.hid hK
      clear hK
      obtain ⟨b5_0, b5_1, b5_2, b5_3⟩ := b5.c4
      have b5_z := b5.free
      have b5_l := b5.lt
      have k5 := b5.kd
      go_wp2
      refine hK'.out _ _ ?_
      clear hK' K
      refine uEnd (by kernel_rfl) ?_
      go_wp2_with fail
      ((try simp only [Exit.inBlock, Exit.then]); refine bodyPost_ret (v := ?_) ?resultOf rfl ?_; case resultOf => (rw [results_tc rfl]; go_simp; rfl))
      exact ⟨_, by rw [HP.out, HQ.out], by rw [HP.out, HQ.out]; exact RecV.kept (T := []) ⟨_, rfl, hu1⟩ (by (repeat (with_reducible (first | assumption | exact Kept.refl _ _ _ | (apply Kept.setK; rotate_left; (repeat (first | assumption | apply Kd.set | apply Kd.alloc | apply Kd.drew)); decide; omega) | refine Kept.allocK ?_ _ | refine Kept.drewK ?_)))), by (repeat (with_reducible (first | assumption | exact Below.refl _ _ | refine Below.setCell ?_ (by simp <;> omega) _ | refine Below.alloc ?_ (by simp <;> omega) _ | refine Below.drew ?_ | refine below_drewN ?_ _)))⟩
    ·have q0 : (r0.kind == 1) = false := by simpa using k0
     by_cases k1 : r1.kind = 1
     ·rw [if_neg (by simp [k1]), if_pos k0] at HQ
      rw [if_neg k0, if_pos k1] at hns
      obtain rfl : ns = 1 := hns
      clear k0 k1
      obtain ⟨b14_0, b14_1, b14_2, b14_3⟩ := b14.c4
      have b14_z := b14.free
      have b14_l := b14.lt
      go_upto_region 27 with (fail)
      try clear b5_0 b5_1 b5_2 b5_3 b5_z b5_l b14_0 b14_1 b14_2 b14_3 b14_z b14_l
      have hx := hx.drew
      have b5 := b5.drew
      have b14 := b14.drew
      have hu0 := hu0.ext ((Below.refl _ _).drew)
      have hu1 := hu1.ext ((Below.refl _ _).drew)
      refine wp_region_ue 3 [] [0, 1] rfl (by kernel_rfl) (by kernel_rfl) ?_
      obtain ⟨D, hD⟩ : ∃ D, D = World.drew w9 := ⟨_, rfl⟩
      rw [← hD] at hx b5 b14 hu0 hu1 ⊢
      clear hD
      apply uF 0 (by kernel_rfl) (by rfl) (by rfl) (by rfl)
      ·(intro w' hx; obtain ⟨x0, x1, x2, x3⟩ := (b14.ext hx).c4; go_simp <;> with_reducible rfl)
      simp only [pA, pB, pC, pD]
      apply uF 1 (by kernel_rfl) (by rfl) (by rfl) (by rfl)
      ·(intro w' hx; go_simp <;> with_reducible rfl)
      simp only [pA, pB, pC, pD]
      refine uL 2 (by kernel_rfl) (by kernel_rfl) (by kernel_rfl) (by rfl) (by rfl) (fun K hK => ?_)
      have hK' := Lib.hid hK
      clear hK
      obtain ⟨b5_0, b5_1, b5_2, b5_3⟩ := b5.c4
      have b5_z := b5.free
      have b5_l := b5.lt
      have k5 := b5.kd
      go_wp2
      refine hK'.out _ _ ?_
      clear hK' K
      refine uEnd (by kernel_rfl) ?_
      go_wp2_with fail
      ((try simp only [Exit.inBlock, Exit.then]); refine bodyPost_ret (v := ?_) ?resultOf rfl ?_; case resultOf => (rw [results_tc rfl]; go_simp; rfl))
      exact ⟨_, by rw [HP.out, HQ.out], by rw [HP.out, HQ.out]; exact RecV.kept (T := []) ⟨_, rfl, hu0⟩ (by (repeat (with_reducible (first | assumption | exact Kept.refl _ _ _ | (apply Kept.setK; rotate_left; (repeat (first | assumption | apply Kd.set | apply Kd.alloc | apply Kd.drew)); decide; omega) | refine Kept.allocK ?_ _ | refine Kept.drewK ?_)))), by (repeat (with_reducible (first | assumption | exact Below.refl _ _ | refine Below.setCell ?_ (by simp <;> omega) _ | refine Below.alloc ?_ (by simp <;> omega) _ | refine Below.drew ?_ | refine below_drewN ?_ _)))⟩
     ·rw [if_pos ⟨k0, k1⟩] at HQ
      rw [if_neg k0, if_neg k1] at hns
      obtain rfl : ns = 2 := hns
      clear k0 k1
      obtain ⟨b6_0, b6_1, b6_2, b6_3, b6_4, b6_5, b6_6, b6_7⟩ := b6.c8
      have b6_z := b6.free
      have b6_l := b6.lt
      obtain ⟨b14_0, b14_1, b14_2, b14_3⟩ := b14.c4
      have b14_z := b14.free
      have b14_l := b14.lt
      go_wp2_with fail
      refine (refSame_v (r := r0) (s := r1) ⟨_, rfl, hu0⟩ ⟨_, rfl, hu1⟩).mono ?_
      rintro e3 w3 ⟨rfl, he⟩
      try clear b5_0 b5_1 b5_2 b5_3 b5_z b5_l b6_0 b6_1 b6_2 b6_3 b6_4 b6_5 b6_6 b6_7 b6_z b6_l b14_0 b14_1 b14_2 b14_3 b14_z b14_l
      have hx := ext_trans hx he
      have b5 := b5.ext he
      have b14 := b14.ext he
      have hu0 := hu0.ext he
      have hu1 := hu1.ext he
      clear he b6
      cases hs : rSame r0 r1 with
      | true =>
       rw [if_pos hs] at HQ
       clear hs
       go_upto_region 23 with (fail)
       have hx := hx.drew
       have b5 := b5.drew
       have b14 := b14.drew
       have hu0 := hu0.ext ((Below.refl _ _).drew)
       have hu1 := hu1.ext ((Below.refl _ _).drew)
       refine wp_region_ue 3 [] [0, 1] rfl (by kernel_rfl) (by kernel_rfl) ?_
       obtain ⟨D, hD⟩ : ∃ D, D = World.drew w3 := ⟨_, rfl⟩
       rw [← hD] at hx b5 b14 hu0 hu1 ⊢
       clear hD
       apply uF 0 (by kernel_rfl) (by rfl) (by rfl) (by rfl)
       ·(intro w' hx; obtain ⟨x0, x1, x2, x3⟩ := (b14.ext hx).c4; go_simp <;> with_reducible rfl)
       simp only [pA, pB, pC, pD]
       apply uF 1 (by kernel_rfl) (by rfl) (by rfl) (by rfl)
       ·(intro w' hx; go_simp <;> with_reducible rfl)
       simp only [pA, pB, pC, pD]
       refine uL 2 (by kernel_rfl) (by kernel_rfl) (by kernel_rfl) (by rfl) (by rfl) (fun K hK => ?_)
       have hK' := Lib.hid hK
       clear hK
       obtain ⟨b5_0, b5_1, b5_2, b5_3⟩ := b5.c4
       have b5_z := b5.free
       have b5_l := b5.lt
       have k5 := b5.kd
       go_wp2
       refine hK'.out _ _ ?_
       clear hK' K
       refine uEnd (by kernel_rfl) ?_
       go_wp2_with fail
       ((try simp only [Exit.inBlock, Exit.then]); refine bodyPost_ret (v := ?_) ?resultOf rfl ?_; case resultOf => (rw [results_tc rfl]; go_simp; rfl))
       exact ⟨_, by rw [HP.out, HQ.out], by rw [HP.out, HQ.out]; exact RecV.kept (T := []) ⟨_, rfl, hu0⟩ (by (repeat (with_reducible (first | assumption | exact Kept.refl _ _ _ | (apply Kept.setK; rotate_left; (repeat (first | assumption | apply Kd.set | apply Kd.alloc | apply Kd.drew)); decide; omega) | refine Kept.allocK ?_ _ | refine Kept.drewK ?_)))), by (repeat (with_reducible (first | assumption | exact Below.refl _ _ | refine Below.setCell ?_ (by simp <;> omega) _ | refine Below.alloc ?_ (by simp <;> omega) _ | refine Below.drew ?_ | refine below_drewN ?_ _)))⟩
      | false =>
       rw [if_neg (by rw [hs]; simp)] at HQ
       clear hs
       go_upto_region 25 with (fail)
       try clear b5_0 b5_1 b5_2 b5_3 b5_z b5_l
       have hx := hx.drew
       have b5 := b5.drew
       have b14 := b14.drew
       have hu0 := hu0.ext ((Below.refl _ _).drew)
       have hu1 := hu1.ext ((Below.refl _ _).drew)
       refine wp_region_ue 3 [] [0, 1] rfl (by kernel_rfl) (by kernel_rfl) ?_
       obtain ⟨D, hD⟩ : ∃ D, D = World.drew w3 := ⟨_, rfl⟩
       rw [← hD] at hx b5 b14 hu0 hu1 ⊢
       clear hD
       apply uF 0 (by kernel_rfl) (by rfl) (by rfl) (by rfl)
       ·(intro w' hx; obtain ⟨x0, x1, x2, x3⟩ := (b14.ext hx).c4; go_simp <;> with_reducible rfl)
       simp only [pA, pB, pC, pD]
       apply uF 1 (by kernel_rfl) (by rfl) (by rfl) (by rfl)
       ·(intro w' hx; go_simp <;> with_reducible rfl)
       simp only [pA, pB, pC, pD]
       refine uL 2 (by kernel_rfl) (by kernel_rfl) (by kernel_rfl) (by rfl) (by rfl) (fun K hK => ?_)
       have hK' := Lib.hid hK
       clear hK
       obtain ⟨b5_0, b5_1, b5_2, b5_3⟩ := b5.c4
       have b5_z := b5.free
       have b5_l := b5.lt
       have k5 := b5.kd
       go_wp2
       refine hK'.out _ _ ?_
       clear hK' K
       refine uEnd (by kernel_rfl) ?_
       go_wp2_with fail
       ((try simp only [Exit.inBlock, Exit.then]); refine bodyPost_ret (v := ?_) ?resultOf rfl ?_; case resultOf => (rw [results_tc rfl]; go_simp; rfl))
       exact ⟨_, by rw [HP.out, HQ.out], by rw [HP.out, HQ.out]; exact RecV.kept (T := []) ⟨_, rfl, hu0⟩ (by (repeat (with_reducible (first | assumption | exact Kept.refl _ _ _ | (apply Kept.setK; rotate_left; (repeat (first | assumption | apply Kd.set | apply Kd.alloc | apply Kd.drew)); decide; omega) | refine Kept.allocK ?_ _ | refine Kept.drewK ?_)))), by (repeat (with_reducible (first | assumption | exact Below.refl _ _ | refine Below.setCell ?_ (by simp <;> omega) _ | refine Below.alloc ?_ (by simp <;> omega) _ | refine Below.drew ?_ | refine below_drewN ?_ _)))⟩
 ·have HP : Hid (pLook d p = (4, rFree)) := Lib.hid (by unfold pLook; rw [if_neg (by unfold pIn; rw [← HN.out]; exact hp)])
  by_cases h0 : p < 0
  ·have q0 : decide (p < 0) = true := by simpa using h0
   obtain ⟨b2_0, b2_1⟩ := b2.c2
   have b2_z := b2.free
   have b2_l := b2.lt
   go_wp2_with fail
   refine (free_w _).mono ?_
   rintro e3 w3 ⟨rfl, he⟩
   try clear b5_0 b5_1 b5_2 b5_3 b5_z b5_l b2_0 b2_1 b2_z b2_l
   have hx := ext_trans hx he
   have b5 := b5.ext he
   clear he
   have k5 := b5.kd
   obtain ⟨b5_0, b5_1, b5_2, b5_3⟩ := b5.c4
   have b5_z := b5.free
   have b5_l := b5.lt
   go_wp2_with fail
   ((try simp only [Exit.inBlock, Exit.then]); refine bodyPost_ret (v := ?_) ?resultOf rfl ?_; case resultOf => (rw [results_tc rfl]; go_simp; rfl))
   exact ⟨_, by rw [HP.out], by rw [HP.out]; exact RecV.free _ _, by (repeat (with_reducible (first | assumption | exact Below.refl _ _ | refine Below.setCell ?_ (by simp <;> omega) _ | refine Below.alloc ?_ (by simp <;> omega) _ | refine Below.drew ?_ | refine below_drewN ?_ _)))⟩
  ·have q0 : decide (p < 0) = false := by simpa using h0
   have q1 : decide ((n : Int) / 2 ≤ p) = true := by rw [decide_eq_true_eq]; omega
   obtain ⟨b2_0, b2_1⟩ := b2.c2
   have b2_z := b2.free
   have b2_l := b2.lt
   go_wp2_with fail
   refine (free_w _).mono ?_
   rintro e3 w3 ⟨rfl, he⟩
   try clear b5_0 b5_1 b5_2 b5_3 b5_z b5_l b2_0 b2_1 b2_z b2_l
   have hx := ext_trans hx he
   have b5 := b5.ext he
   clear he
   have k5 := b5.kd
   obtain ⟨b5_0, b5_1, b5_2, b5_3⟩ := b5.c4
   have b5_z := b5.free
   have b5_l := b5.lt
   go_wp2_with fail
   ((try simp only [Exit.inBlock, Exit.then]); refine bodyPost_ret (v := ?_) ?resultOf rfl ?_; case resultOf => (rw [results_tc rfl]; go_simp; rfl))
   exact ⟨_, by rw [HP.out], by rw [HP.out]; exact RecV.free _ _, by (repeat (with_reducible (first | assumption | exact Below.refl _ _ | refine Below.setCell ?_ (by simp <;> omega) _ | refine Below.alloc ?_ (by simp <;> omega) _ | refine Below.drew ?_ | refine below_drewN ?_ _)))⟩
end Go.Proofs.YtmcgbdbhpnplmaaGreat
