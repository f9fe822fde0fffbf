/- Walks: pair.both. -/
import Derived.Test.YtdmnmfnmaccmoaaGreatDoorG3
import Derived.Test.YtdmnmfnmaccmoaaGreatDoorG4
import Derived.Test.YtdmnmfnmaccmoaaGreatDoorPr0
import Derived.Deep.Cut
import Derived.Deep.CutRange
namespace Go.Proofs.YtdmnmfnmaccmoaaGreatDoor
open Go Go.RowKit
abbrev z8 : Array Value := #[.int .i64 0, .int .i64 0, .int .i64 0, .slice none 0 0, .int .i64 0, .int .i64 0, .int .i64 0, .slice none 0 0]
def bothOf (d : Dsk) (p : Int) : (Rec × Bool) × (Rec × Bool) := if pIn d p then (pSide d (2 * p), pSide d (2 * p + 1)) else ((rZero, false), (rZero, false))
def BothAt (w : World) (g f : Nat) (d : Dsk) (p : Int) : Nat → Prop
 | 0 => Box w g 142 z8 ∧ Box w f 143 #[.bool false, .bool false]
 | 1 => ∃ u, Box w g 142 #[.int .i64 (pSide d (2 * p)).1.kind, .int .i64 (pSide d (2 * p)).1.key, .int .i64 (pSide d (2 * p)).1.ver, u, .int .i64 0, .int .i64 0, .int .i64 0, .slice none 0 0] ∧ ByT w 0 u (pSide d (2 * p)).1.data ∧
   Box w f 143 #[.bool (pSide d (2 * p)).2, .bool false]
 | _ => ∃ u u', Box w g 142 #[.int .i64 (pSide d (2 * p)).1.kind, .int .i64 (pSide d (2 * p)).1.key, .int .i64 (pSide d (2 * p)).1.ver, u, .int .i64 (pSide d (2 * p + 1)).1.kind, .int .i64 (pSide d (2 * p + 1)).1.key, .int .i64 (pSide d (2 * p + 1)).1.ver, u'] ∧
   ByT w 0 u (pSide d (2 * p)).1.data ∧ ByT w 0 u' (pSide d (2 * p + 1)).1.data ∧ Box w f 143 #[.bool (pSide d (2 * p)).2, .bool (pSide d (2 * p + 1)).2]
theorem xk_set {B : Nat} {gs : List Nat} {a b : World} {g : Nat} (h : XK B gs a b) (hg : B ≤ g) (hn : g ∉ gs) (j : Nat) (v : Value) : XK B gs a (b.setCell ⟨g, j, none⟩ v) :=
 ⟨h.1.setCell hg _, fun x hx => (Below.heap_setCell _ _ _ _ (fun e => hn (by subst e; exact hx))).trans (h.2 x hx)⟩
theorem put8a {w : World} {g : Nat} {t : TypeId} {a b c d e f i j x y z u : Value} (k : Box w g t #[a, b, c, d, e, f, i, j]) : Box ((((w.setCell ⟨g, 0, none⟩ x).setCell ⟨g, 1, none⟩ y).setCell ⟨g, 2, none⟩ z).setCell ⟨g, 3, none⟩ u) g t #[x, y, z, u, e, f, i, j] := (((k.set 0 x).set 1 y).set 2 z).set 3 u
theorem put8b {w : World} {g : Nat} {t : TypeId} {a b c d e f i j x y z u : Value} (k : Box w g t #[a, b, c, d, e, f, i, j]) : Box ((((w.setCell ⟨g, 4, none⟩ x).setCell ⟨g, 5, none⟩ y).setCell ⟨g, 6, none⟩ z).setCell ⟨g, 7, none⟩ u) g t #[a, b, c, d, x, y, z, u] := (((k.set 4 x).set 5 y).set 6 z).set 7 u
theorem dGet_zero (d : Dsk) (k : Int) (h0 : 0 ≤ k) (h1 : k < d.blocks.length) : (dGet d k).2 = 0 := by unfold dGet; rw [if_neg (by omega)]
theorem beq_dec (q : Int) : (q == 0) = decide (q = 0) := by by_cases h : q = 0 <;> simp [h]
set_option maxRecDepth 100000 in
set_option maxHeartbeats 4000000 in
theorem both_v {T : List TypeId} {base : Nat} {v : Value} {d : Dsk} {p : Int} {w : World} (h : DskV T w base v d) (hk : DskOk d) :
  Calls Tryz.prog 80 #[v, .int .i64 p] w fun e w' => ∃ u0 u1, e = .returned (.tuple #[.agg #[.int .i64 (bothOf d p).1.1.kind, .int .i64 (bothOf d p).1.1.key, .int .i64 (bothOf d p).1.1.ver, u0, .int .i64 (bothOf d p).2.1.kind, .int .i64 (bothOf d p).2.1.key, .int .i64 (bothOf d p).2.1.ver, u1], .agg #[.bool (bothOf d p).1.2, .bool (bothOf d p).2.2]]) ∧ ByT w' 0 u0 (bothOf d p).1.1.data ∧ ByT w' 0 u1 (bothOf d p).2.1.data ∧ Ext w w' := by
 obtain ⟨A, n, c, E, m, e, rfl, HN, HM, hb, hl, hnc, hme⟩ := h.form
 go_enter Tryz.func80, Tryz.ntmps80
 have hn4 : n ≤ 4096 := by have := hk.blocks; have := HN.out; omega
 by_cases hp : 0 ≤ p ∧ p < (n : Int) / 2
 ·obtain ⟨h0, h1⟩ := hp
  have q0 : decide (p < 0) = false := by rw [decide_eq_false_iff_not]; omega
  have q1 : decide ((n : Int) / 2 ≤ p) = false := by rw [decide_eq_false_iff_not]; omega
  go_wp2_with fail
  generalize hwn : World.alloc (World.alloc (World.alloc (World.alloc (World.alloc w _) _) _) _) _ = W
  have hx : Ext w W := by rw [← hwn]; (repeat (with_reducible (first | assumption | exact Below.refl _ _ | refine Below.setCell ?_ (by simp <;> omega) _ | refine Below.alloc ?_ (by simp <;> omega) _ | refine Below.drew ?_ | refine below_drewN ?_ _)))
  have b2 : Box W w.heap.size 27 #[.slice A n c, .slice E m e] := by rw [← hwn]; exact ((((Box.new _ _ _ rfl).alloc _).alloc _).alloc _).alloc _
  have b4 : Box W (w.heap.size + 1) 142 z8 := by rw [← hwn]; exact (((Box.new _ _ _ (by simp)).alloc _).alloc _).alloc _
  have b5 : Box W (w.heap.size + 1 + 1) 143 #[.bool false, .bool false] := by rw [← hwn]; exact ((Box.new _ _ _ (by simp)).alloc _).alloc _
  have b6 : Box W (w.heap.size + 1 + 1 + 1) 142 z8 := by rw [← hwn]; exact (Box.new _ _ _ (by simp)).alloc _
  have b7 : Box W (w.heap.size + 1 + 1 + 1 + 1) 143 #[.bool false, .bool false] := by rw [← hwn]; exact Box.new _ _ _ (by simp)
  clear hwn
  have h : DskV tD W w.heap.size (.agg #[.slice A n c, .slice E m e]) d := (h.all (T' := tD)).ext hx
  obtain ⟨g7, hg7⟩ : ∃ g, g = w.heap.size + 1 + 1 + 1 + 1 := ⟨_, rfl⟩
  have l67 : w.heap.size + 1 + 1 + 1 < g7 := by omega
  rw [← hg7] at b7 ⊢
  clear hg7
  obtain ⟨g6, hg6⟩ : ∃ g, g = w.heap.size + 1 + 1 + 1 := ⟨_, rfl⟩
  have l56 : w.heap.size + 1 + 1 < g6 := by omega
  rw [← hg6] at b6 l67 ⊢
  clear hg6
  obtain ⟨g5, hg5⟩ : ∃ g, g = w.heap.size + 1 + 1 := ⟨_, rfl⟩
  have l45 : w.heap.size + 1 < g5 := by omega
  rw [← hg5] at b5 l56 ⊢
  clear hg5
  obtain ⟨g4, hg4⟩ : ∃ g, g = w.heap.size + 1 := ⟨_, rfl⟩
  have l24 : w.heap.size < g4 := by omega
  rw [← hg4] at b4 l45 ⊢
  clear hg4
  go_loopw [24] (fun i wr => ∃ k : Nat, k ≤ 2 ∧ i = .int .i64 k ∧ BothAt wr g6 g7 d p k ∧ Box wr w.heap.size 27 #[.slice A n c, .slice E m e] ∧ Box wr g4 142 z8 ∧ Box wr g5 143 #[.bool false, .bool false] ∧ DskV tD wr w.heap.size (.agg #[.slice A n c, .slice E m e]) d ∧ Ext w wr) (fun i _ => 2 - (intOf i).toNat)
  case atStart => exact ⟨0, by omega, rfl, ⟨b6, b7⟩, b2, b4, b5, h, hx⟩
  case round =>
   clear b2 b4 b5 b6 b7 hx
   obtain ⟨k, hk2, rfl, hB, b2, b4, b5, h, hx⟩ := hrel
   have hk3 : k = 0 ∨ k = 1 ∨ k = 2 := by omega
   clear hk2
   rcases hk3 with rfl | rfl | rfl
   ·obtain ⟨b6, b7⟩ := hB
    rw [show ((0 : Nat) : Int) = 0 from rfl]
    obtain ⟨b2_0, b2_1⟩ := b2.c2
    have b2_z := b2.free
    have b2_l := b2.lt
    go_wp2_with fail
    refine (dskGet_v (k := 2 * p) h hk).mono ?_
    rintro e3 w3 ⟨v3, q3, rfl, hq3, hy3, he⟩
    try clear b2_0 b2_1 b2_z b2_l
    rw [dGet_zero d (2 * p) (by omega) (by have := HN.out; omega)] at hq3
    subst hq3
    obtain ⟨A3, n3, c3, rfl, hy3, _⟩ := hy3.form
    have b6 := b6.ext he
    have hx := ext_trans hx he
    have b2 := b2.ext he
    have b4 := b4.ext he
    have b5 := b5.ext he
    have b7 := b7.ext he
    have h := h.ext he
    clear he
    go_wp2_with fail
    refine (read_w (l := (dGet d (2 * p)).1) (k := 2 * p) _ hy3 (Nat.le_refl _)).mono ?_
    rintro e4 w4 ⟨v4, q4, rfl, hq4, hr4, he⟩
    obtain ⟨u4, rfl, hu4⟩ := (hr4.recV (base := 0))
    have b6 := b6.ext he
    have hx := ext_trans hx he
    have b2 := b2.ext he
    have b4 := b4.ext he
    have b5 := b5.ext he
    have b7 := b7.ext he
    have h := h.ext he
    clear he hr4 hy3
    have hs2 : (q4 == 0) = (pSide d (2 * p)).2 := by rw [hq4]; exact beq_dec _
    have hs1 : (rRead (dGet d (2 * p)).1 (2 * p)).1 = (pSide d (2 * p)).1 := rfl
    rw [hs1] at hu4 ⊢
    clear hq4 hs1
    obtain ⟨sd, hsd⟩ : ∃ s, pSide d (2 * p) = s := ⟨_, rfl⟩
    rw [hsd] at hu4 hs2 ⊢
    have HSD := Lib.hid hsd
    clear hsd
    obtain ⟨⟨rk, ry, rv, rd⟩, sb⟩ := sd
    simp only at hu4 hs2 ⊢
    have Hs2 := Lib.hid hs2
    clear hs2
    obtain ⟨A4, n4, c4, rfl, _, _⟩ := hu4.form
    obtain ⟨a0, a1, a2, a3, a4, a5, a6, a7⟩ := b6.c8
    have a8 := b6.free
    have a9 := b6.lt
    have ne67 : g6 ≠ g7 := Nat.ne_of_lt (by omega)
    obtain ⟨b7_0, b7_1⟩ := b7.c2
    have b7_z := b7.free
    have b7_l := b7.lt
    go_wp2_with fail
    have k6 := b6.kd
    have k7 := b7.kd
    refine ⟨⟨1, by omega, rfl, ⟨.slice A4 n4 c4, ?_, ?_, ?_⟩, ?_, ?_, ?_, ?_, ?_⟩, ?_⟩
    ·rw [HSD.out]
     exact ((put8a b6).setOther ne67 _).alloc _
    ·rw [HSD.out]
     exact hu4.kept (T := []) (by (repeat (with_reducible (first | assumption | exact Kept.refl _ _ _ | (apply Kept.setK; rotate_left; (repeat (first | assumption | apply Kd.set | apply Kd.alloc | apply Kd.drew)); decide; omega) | refine Kept.allocK ?_ _ | refine Kept.drewK ?_))))
    ·rw [HSD.out]
     have e7 : (#[Value.bool false, Value.bool false] : Array Value).setIfInBounds 0 (.bool (q4 == 0)) = #[.bool sb, .bool false] := by rw [Hs2.out]; rfl
     refine Box.alloc ?_ _
     rw [← e7]
     refine Box.set ?_ _ _
     (repeat (with_reducible (first | assumption | refine Box.alloc ?_ _ | refine Box.setOther ?_ (by simp <;> omega) _)))
    ·(repeat (with_reducible (first | assumption | refine Box.alloc ?_ _ | refine Box.setOther ?_ (by simp <;> omega) _)))
    ·(repeat (with_reducible (first | assumption | refine Box.alloc ?_ _ | refine Box.setOther ?_ (by simp <;> omega) _)))
    ·(repeat (with_reducible (first | assumption | refine Box.alloc ?_ _ | refine Box.setOther ?_ (by simp <;> omega) _)))
    ·exact h.kept (by (repeat (with_reducible (first | assumption | exact Kept.refl _ _ _ | (apply Kept.setK; rotate_left; (repeat (first | assumption | apply Kd.set | apply Kd.alloc | apply Kd.drew)); decide; omega) | refine Kept.allocK ?_ _ | refine Kept.drewK ?_))))
    ·(repeat (with_reducible (first | assumption | exact Below.refl _ _ | refine Below.setCell ?_ (by simp <;> omega) _ | refine Below.alloc ?_ (by simp <;> omega) _ | refine Below.drew ?_ | refine below_drewN ?_ _)))
    ·simp only [intOf]
     omega
   ·obtain ⟨u0, b6, hu0, b7⟩ := hB
    rw [show ((1 : Nat) : Int) = 1 from rfl]
    obtain ⟨b2_0, b2_1⟩ := b2.c2
    have b2_z := b2.free
    have b2_l := b2.lt
    go_wp2_with fail
    refine (dskGet_v (k := 2 * p + 1) h hk).mono ?_
    rintro e3 w3 ⟨v3, q3, rfl, hq3, hy3, he⟩
    try clear b7_0 b7_1 b7_z b7_l b2_0 b2_1 b2_z b2_l
    rw [dGet_zero d (2 * p + 1) (by omega) (by have := HN.out; omega)] at hq3
    subst hq3
    obtain ⟨A3, n3, c3, rfl, hy3, _⟩ := hy3.form
    have b6 := b6.ext he
    have hu0 := hu0.ext he
    have hx := ext_trans hx he
    have b2 := b2.ext he
    have b4 := b4.ext he
    have b5 := b5.ext he
    have b7 := b7.ext he
    have h := h.ext he
    clear he
    go_wp2_with fail
    refine (read_w (l := (dGet d (2 * p + 1)).1) (k := 2 * p + 1) _ hy3 (Nat.le_refl _)).mono ?_
    rintro e4 w4 ⟨v4, q4, rfl, hq4, hr4, he⟩
    obtain ⟨u4, rfl, hu4⟩ := (hr4.recV (base := 0))
    have b6 := b6.ext he
    have hu0 := hu0.ext he
    have hx := ext_trans hx he
    have b2 := b2.ext he
    have b4 := b4.ext he
    have b5 := b5.ext he
    have b7 := b7.ext he
    have h := h.ext he
    clear he hr4 hy3
    have hs2 : (q4 == 0) = (pSide d (2 * p + 1)).2 := by rw [hq4]; exact beq_dec _
    have hs1 : (rRead (dGet d (2 * p + 1)).1 (2 * p + 1)).1 = (pSide d (2 * p + 1)).1 := rfl
    rw [hs1] at hu4 ⊢
    clear hq4 hs1
    obtain ⟨sd, hsd⟩ : ∃ s, pSide d (2 * p + 1) = s := ⟨_, rfl⟩
    rw [hsd] at hu4 hs2 ⊢
    have HSD := Lib.hid hsd
    clear hsd
    obtain ⟨⟨rk, ry, rv, rd⟩, sb⟩ := sd
    simp only at hu4 hs2 ⊢
    have Hs2 := Lib.hid hs2
    clear hs2
    obtain ⟨A4, n4, c4, rfl, _, _⟩ := hu4.form
    obtain ⟨a0, a1, a2, a3, a4, a5, a6, a7⟩ := b6.c8
    have a8 := b6.free
    have a9 := b6.lt
    have ne67 : g6 ≠ g7 := Nat.ne_of_lt (by omega)
    obtain ⟨b7_0, b7_1⟩ := b7.c2
    have b7_z := b7.free
    have b7_l := b7.lt
    go_wp2_with fail
    have k6 := b6.kd
    have k7 := b7.kd
    refine ⟨⟨2, by omega, rfl, ⟨u0, .slice A4 n4 c4, ?_, ?_, ?_, ?_⟩, ?_, ?_, ?_, ?_, ?_⟩, ?_⟩
    ·rw [HSD.out]
     exact ((put8b b6).setOther ne67 _).alloc _
    ·exact hu0.kept (T := []) (by (repeat (with_reducible (first | assumption | exact Kept.refl _ _ _ | (apply Kept.setK; rotate_left; (repeat (first | assumption | apply Kd.set | apply Kd.alloc | apply Kd.drew)); decide; omega) | refine Kept.allocK ?_ _ | refine Kept.drewK ?_))))
    ·rw [HSD.out]
     exact hu4.kept (T := []) (by (repeat (with_reducible (first | assumption | exact Kept.refl _ _ _ | (apply Kept.setK; rotate_left; (repeat (first | assumption | apply Kd.set | apply Kd.alloc | apply Kd.drew)); decide; omega) | refine Kept.allocK ?_ _ | refine Kept.drewK ?_))))
    ·rw [HSD.out]
     have e7 : (#[Value.bool (pSide d (2 * p)).2, Value.bool false] : Array Value).setIfInBounds 1 (.bool (q4 == 0)) = #[.bool (pSide d (2 * p)).2, .bool sb] := by rw [Hs2.out]; rfl
     refine Box.alloc ?_ _
     rw [← e7]
     refine Box.set ?_ _ _
     (repeat (with_reducible (first | assumption | refine Box.alloc ?_ _ | refine Box.setOther ?_ (by simp <;> omega) _)))
    ·(repeat (with_reducible (first | assumption | refine Box.alloc ?_ _ | refine Box.setOther ?_ (by simp <;> omega) _)))
    ·(repeat (with_reducible (first | assumption | refine Box.alloc ?_ _ | refine Box.setOther ?_ (by simp <;> omega) _)))
    ·(repeat (with_reducible (first | assumption | refine Box.alloc ?_ _ | refine Box.setOther ?_ (by simp <;> omega) _)))
    ·exact h.kept (by (repeat (with_reducible (first | assumption | exact Kept.refl _ _ _ | (apply Kept.setK; rotate_left; (repeat (first | assumption | apply Kd.set | apply Kd.alloc | apply Kd.drew)); decide; omega) | refine Kept.allocK ?_ _ | refine Kept.drewK ?_))))
    ·(repeat (with_reducible (first | assumption | exact Below.refl _ _ | refine Below.setCell ?_ (by simp <;> omega) _ | refine Below.alloc ?_ (by simp <;> omega) _ | refine Below.drew ?_ | refine below_drewN ?_ _)))
    ·simp only [intOf]
     omega
   ·obtain ⟨u0, u1, b6, hu0, hu1, b7⟩ := hB
    obtain ⟨A4, n4, c4, rfl, _, _⟩ := hu0.form
    obtain ⟨A5, n5, c5, rfl, _, _⟩ := hu1.form
    have hbo : bothOf d p = (pSide d (2 * p), pSide d (2 * p + 1)) := by unfold bothOf; rw [if_pos ⟨h0, by rw [← HN.out]; exact h1⟩]
    generalize pSide d (2 * p) = s0 at b6 b7 hu0 hbo
    generalize pSide d (2 * p + 1) = s1 at b6 b7 hu1 hbo
    obtain ⟨⟨k0, y0, x0, d0⟩, t0⟩ := s0
    obtain ⟨⟨k1, y1, x1, d1⟩, t1⟩ := s1
    simp only at b6 b7 hu0 hu1
    have HBO := Lib.hid hbo
    clear hbo h b2
    go_upto_region 13 with (fail)
    have hx := hx.drew
    have b4 := b4.drew
    have b5 := b5.drew
    have b6 := b6.drew
    have b7 := b7.drew
    have hu0 := hu0.ext ((Below.refl _ _).drew)
    have hu1 := hu1.ext ((Below.refl _ _).drew)
    refine wp_region_keep w.heap.size [g6, g7] 4 [0, 1] true rfl (by kernel_rfl) (by kernel_rfl) ?_
    generalize wr.drew = D at hx b4 b5 b6 b7 hu0 hu1 ⊢
    apply mixF 0 (by kernel_rfl) (by rfl) (by rfl)
    ·(intro w' hx; obtain ⟨a0, a1, a2, a3, a4, a5, a6, a7⟩ := (b6.xk hx (by simp)).c8; go_simp <;> with_reducible rfl)
    simp only [pA, pB, pC, pD]
    apply mixF 1 (by kernel_rfl) (by rfl) (by rfl)
    ·(intro w' hx; obtain ⟨a0, a1⟩ := (b7.xk hx (by simp)).c2; go_simp <;> with_reducible rfl)
    simp only [pA, pB, pC, pD]
    refine mixS 2 (by kernel_rfl) (by kernel_rfl) (by rfl) (by rfl) (fun K hK => ?_)
    obtain ⟨a0, a1, a2, a3, a4, a5, a6, a7⟩ := b4.c8
    have a8 := b4.free
    go_wp2
    refine hK.out _ _ (by repeat (with_reducible (first | exact XK.refl _ _ _ | refine xk_set ?_ (by omega) (by simp; omega) _ _))) ?_
    clear hK K a0 a1 a2 a3 a4 a5 a6 a7 a8
    try simp only [pA, pB, pC, pD]
    generalize hwn : World.setCell (World.setCell (World.setCell (World.setCell (World.setCell (World.setCell (World.setCell (World.setCell D _ _) _ _) _ _) _ _) _ _) _ _) _ _) _ _ = w1
    have k4 := b4.kd
    have b4 : B8 w1 g4 ⟨k0, y0, x0, d0⟩ ⟨k1, y1, x1, d1⟩ (.slice A4 n4 c4) (.slice A5 n5 c5) := by rw [← hwn]; exact put8b (put8a b4)
    have b5 : Box w1 g5 143 #[.bool false, .bool false] := by rw [← hwn]; (repeat (with_reducible (first | assumption | refine Box.alloc ?_ _ | refine Box.setOther ?_ (by simp <;> omega) _)))
    have hu0 : ByT w1 0 (.slice A4 n4 c4) d0 := hu0.kept (T := []) (by rw [← hwn]; (repeat (with_reducible (first | assumption | exact Kept.refl _ _ _ | (apply Kept.setK; rotate_left; (repeat (first | assumption | apply Kd.set | apply Kd.alloc | apply Kd.drew)); decide; omega) | refine Kept.allocK ?_ _ | refine Kept.drewK ?_))))
    have hu1 : ByT w1 0 (.slice A5 n5 c5) d1 := hu1.kept (T := []) (by rw [← hwn]; (repeat (with_reducible (first | assumption | exact Kept.refl _ _ _ | (apply Kept.setK; rotate_left; (repeat (first | assumption | apply Kd.set | apply Kd.alloc | apply Kd.drew)); decide; omega) | refine Kept.allocK ?_ _ | refine Kept.drewK ?_))))
    have hx : Ext w w1 := by rw [← hwn]; (repeat (with_reducible (first | assumption | exact Below.refl _ _ | refine Below.setCell ?_ (by simp <;> omega) _ | refine Below.alloc ?_ (by simp <;> omega) _ | refine Below.drew ?_ | refine below_drewN ?_ _)))
    clear hwn k4 b6 b7
    refine mixLast 3 (by kernel_rfl) (by kernel_rfl) (by kernel_rfl) (by rfl) (by rfl) (fun K hK => ?_)
    have hK' := Lib.hid hK
    clear hK
    obtain ⟨a0, a1⟩ := b5.c2
    have a8 := b5.free
    have a9 := b4.c8
    have k5 := b5.kd
    obtain ⟨a10, a11, a12, a13, a14, a15, a16, a17⟩ := b4.c8
    go_wp2
    refine hK'.out _ _ ?_
    clear hK' K
    refine NoPanic.normal ?_
    go_wp2_with fail
    ((try simp only [Exit.inBlock, Exit.then]); refine bodyPost_ret (v := ?_) ?resultOf rfl ?_; case resultOf => (rw [results_cells rfl]; go_simp; rfl))
    refine ⟨_, _, by rw [HBO.out], ?_, ?_, ?_⟩
    ·rw [HBO.out]
     exact hu0.kept (T := []) (by (repeat (with_reducible (first | assumption | exact Kept.refl _ _ _ | (apply Kept.setK; rotate_left; (repeat (first | assumption | apply Kd.set | apply Kd.alloc | apply Kd.drew)); decide; omega) | refine Kept.allocK ?_ _ | refine Kept.drewK ?_))))
    ·rw [HBO.out]
     exact hu1.kept (T := []) (by (repeat (with_reducible (first | assumption | exact Kept.refl _ _ _ | (apply Kept.setK; rotate_left; (repeat (first | assumption | apply Kd.set | apply Kd.alloc | apply Kd.drew)); decide; omega) | refine Kept.allocK ?_ _ | refine Kept.drewK ?_))))
    ·(repeat (with_reducible (first | assumption | exact Below.refl _ _ | refine Below.setCell ?_ (by simp <;> omega) _ | refine Below.alloc ?_ (by simp <;> omega) _ | refine Below.drew ?_ | refine below_drewN ?_ _)))
 ·have hbo : bothOf d p = ((⟨0, 0, 0, []⟩, false), (⟨0, 0, 0, []⟩, false)) := by unfold bothOf; rw [if_neg (fun h => hp ⟨h.1, by rw [HN.out]; exact h.2⟩)]; rfl
  have HBO := Lib.hid hbo
  clear hbo
  by_cases h0 : p < 0
  ·have q0 : decide (p < 0) = true := by simpa using h0
   clear hp h0
   go_upto_region 4 with (fail)
   generalize hwn : World.alloc (World.alloc (World.alloc (World.alloc (World.alloc w _) _) _) _) _ = W
   have hx : Ext w W := by rw [← hwn]; (repeat (with_reducible (first | assumption | exact Below.refl _ _ | refine Below.setCell ?_ (by simp <;> omega) _ | refine Below.alloc ?_ (by simp <;> omega) _ | refine Below.drew ?_ | refine below_drewN ?_ _)))
   have b2 : Box W w.heap.size 27 #[.slice A n c, .slice E m e] := by rw [← hwn]; exact ((((Box.new _ _ _ rfl).alloc _).alloc _).alloc _).alloc _
   have b4 : Box W (w.heap.size + 1) 142 z8 := by rw [← hwn]; exact (((Box.new _ _ _ (by simp)).alloc _).alloc _).alloc _
   have b5 : Box W (w.heap.size + 1 + 1) 143 #[.bool false, .bool false] := by rw [← hwn]; exact ((Box.new _ _ _ (by simp)).alloc _).alloc _
   have b6 : Box W (w.heap.size + 1 + 1 + 1) 142 z8 := by rw [← hwn]; exact (Box.new _ _ _ (by simp)).alloc _
   have b7 : Box W (w.heap.size + 1 + 1 + 1 + 1) 143 #[.bool false, .bool false] := by rw [← hwn]; exact Box.new _ _ _ (by simp)
   clear hwn
   have h : DskV tD W w.heap.size (.agg #[.slice A n c, .slice E m e]) d := (h.all (T' := tD)).ext hx
   obtain ⟨g7, hg7⟩ : ∃ g, g = w.heap.size + 1 + 1 + 1 + 1 := ⟨_, rfl⟩
   have l67 : w.heap.size + 1 + 1 + 1 < g7 := by omega
   rw [← hg7] at b7 ⊢
   clear hg7
   obtain ⟨g6, hg6⟩ : ∃ g, g = w.heap.size + 1 + 1 + 1 := ⟨_, rfl⟩
   have l56 : w.heap.size + 1 + 1 < g6 := by omega
   rw [← hg6] at b6 l67 ⊢
   clear hg6
   obtain ⟨g5, hg5⟩ : ∃ g, g = w.heap.size + 1 + 1 := ⟨_, rfl⟩
   have l45 : w.heap.size + 1 < g5 := by omega
   rw [← hg5] at b5 l56 ⊢
   clear hg5
   obtain ⟨g4, hg4⟩ : ∃ g, g = w.heap.size + 1 := ⟨_, rfl⟩
   have l24 : w.heap.size < g4 := by omega
   rw [← hg4] at b4 l45 ⊢
   clear hg4
   have hu0 := ByT.nil W 0
   have hu1 := ByT.nil W 0
   clear b2 h
   have hx := hx.drew
   have b4 := b4.drew
   have b5 := b5.drew
   have b6 := b6.drew
   have b7 := b7.drew
   have hu0 := hu0.ext ((Below.refl _ _).drew)
   have hu1 := hu1.ext ((Below.refl _ _).drew)
   refine wp_region_keep w.heap.size [g6, g7] 4 [0, 1] true rfl (by kernel_rfl) (by kernel_rfl) ?_
   generalize W.drew = D at hx b4 b5 b6 b7 hu0 hu1 ⊢
   apply mixF 0 (by kernel_rfl) (by rfl) (by rfl)
   ·(intro w' hx; obtain ⟨a0, a1, a2, a3, a4, a5, a6, a7⟩ := (b6.xk hx (by simp)).c8; go_simp <;> with_reducible rfl)
   simp only [pA, pB, pC, pD]
   apply mixF 1 (by kernel_rfl) (by rfl) (by rfl)
   ·(intro w' hx; obtain ⟨a0, a1⟩ := (b7.xk hx (by simp)).c2; go_simp <;> with_reducible rfl)
   simp only [pA, pB, pC, pD]
   refine mixS 2 (by kernel_rfl) (by kernel_rfl) (by rfl) (by rfl) (fun K hK => ?_)
   obtain ⟨a0, a1, a2, a3, a4, a5, a6, a7⟩ := b4.c8
   have a8 := b4.free
   go_wp2
   refine hK.out _ _ (by repeat (with_reducible (first | exact XK.refl _ _ _ | refine xk_set ?_ (by omega) (by simp; omega) _ _))) ?_
   clear hK K a0 a1 a2 a3 a4 a5 a6 a7 a8
   try simp only [pA, pB, pC, pD]
   generalize hwn : World.setCell (World.setCell (World.setCell (World.setCell (World.setCell (World.setCell (World.setCell (World.setCell D _ _) _ _) _ _) _ _) _ _) _ _) _ _) _ _ = w1
   have k4 := b4.kd
   have b4 : B8 w1 g4 ⟨0, 0, 0, []⟩ ⟨0, 0, 0, []⟩ (.slice none 0 0) (.slice none 0 0) := by rw [← hwn]; exact put8b (put8a b4)
   have b5 : Box w1 g5 143 #[.bool false, .bool false] := by rw [← hwn]; (repeat (with_reducible (first | assumption | refine Box.alloc ?_ _ | refine Box.setOther ?_ (by simp <;> omega) _)))
   have hu0 : ByT w1 0 (.slice none 0 0) [] := hu0.kept (T := []) (by rw [← hwn]; (repeat (with_reducible (first | assumption | exact Kept.refl _ _ _ | (apply Kept.setK; rotate_left; (repeat (first | assumption | apply Kd.set | apply Kd.alloc | apply Kd.drew)); decide; omega) | refine Kept.allocK ?_ _ | refine Kept.drewK ?_))))
   have hu1 : ByT w1 0 (.slice none 0 0) [] := hu1.kept (T := []) (by rw [← hwn]; (repeat (with_reducible (first | assumption | exact Kept.refl _ _ _ | (apply Kept.setK; rotate_left; (repeat (first | assumption | apply Kd.set | apply Kd.alloc | apply Kd.drew)); decide; omega) | refine Kept.allocK ?_ _ | refine Kept.drewK ?_))))
   have hx : Ext w w1 := by rw [← hwn]; (repeat (with_reducible (first | assumption | exact Below.refl _ _ | refine Below.setCell ?_ (by simp <;> omega) _ | refine Below.alloc ?_ (by simp <;> omega) _ | refine Below.drew ?_ | refine below_drewN ?_ _)))
   clear hwn k4 b6 b7
   refine mixLast 3 (by kernel_rfl) (by kernel_rfl) (by kernel_rfl) (by rfl) (by rfl) (fun K hK => ?_)
   have hK' := Lib.hid hK
   clear hK
   obtain ⟨a0, a1⟩ := b5.c2
   have a8 := b5.free
   have a9 := b4.c8
   have k5 := b5.kd
   obtain ⟨a10, a11, a12, a13, a14, a15, a16, a17⟩ := b4.c8
   go_wp2
   refine hK'.out _ _ ?_
   clear hK' K
   refine NoPanic.normal ?_
   go_wp2_with fail
   ((try simp only [Exit.inBlock, Exit.then]); refine bodyPost_ret (v := ?_) ?resultOf rfl ?_; case resultOf => (rw [results_cells rfl]; go_simp; rfl))
   refine ⟨_, _, by rw [HBO.out], ?_, ?_, ?_⟩
   ·rw [HBO.out]
    exact hu0.kept (T := []) (by (repeat (with_reducible (first | assumption | exact Kept.refl _ _ _ | (apply Kept.setK; rotate_left; (repeat (first | assumption | apply Kd.set | apply Kd.alloc | apply Kd.drew)); decide; omega) | refine Kept.allocK ?_ _ | refine Kept.drewK ?_))))
   ·rw [HBO.out]
    exact hu1.kept (T := []) (by (repeat (with_reducible (first | assumption | exact Kept.refl _ _ _ | (apply Kept.setK; rotate_left; (repeat (first | assumption | apply Kd.set | apply Kd.alloc | apply Kd.drew)); decide; omega) | refine Kept.allocK ?_ _ | refine Kept.drewK ?_))))
   ·(repeat (with_reducible (first | assumption | exact Below.refl _ _ | refine Below.setCell ?_ (by simp <;> omega) _ | refine Below.alloc ?_ (by simp <;> omega) _ | refine Below.drew ?_ | refine below_drewN ?_ _)))
  ·have q0 : decide (p < 0) = false := by simpa using h0
   have q1 : decide ((n : Int) / 2 ≤ p) = true := by rw [decide_eq_true_eq]; omega
   clear hp h0
   go_upto_region 4 with (fail)
   generalize hwn : World.alloc (World.alloc (World.alloc (World.alloc (World.alloc w _) _) _) _) _ = W
   have hx : Ext w W := by rw [← hwn]; (repeat (with_reducible (first | assumption | exact Below.refl _ _ | refine Below.setCell ?_ (by simp <;> omega) _ | refine Below.alloc ?_ (by simp <;> omega) _ | refine Below.drew ?_ | refine below_drewN ?_ _)))
   have b2 : Box W w.heap.size 27 #[.slice A n c, .slice E m e] := by rw [← hwn]; exact ((((Box.new _ _ _ rfl).alloc _).alloc _).alloc _).alloc _
   have b4 : Box W (w.heap.size + 1) 142 z8 := by rw [← hwn]; exact (((Box.new _ _ _ (by simp)).alloc _).alloc _).alloc _
   have b5 : Box W (w.heap.size + 1 + 1) 143 #[.bool false, .bool false] := by rw [← hwn]; exact ((Box.new _ _ _ (by simp)).alloc _).alloc _
   have b6 : Box W (w.heap.size + 1 + 1 + 1) 142 z8 := by rw [← hwn]; exact (Box.new _ _ _ (by simp)).alloc _
   have b7 : Box W (w.heap.size + 1 + 1 + 1 + 1) 143 #[.bool false, .bool false] := by rw [← hwn]; exact Box.new _ _ _ (by simp)
   clear hwn
   have h : DskV tD W w.heap.size (.agg #[.slice A n c, .slice E m e]) d := (h.all (T' := tD)).ext hx
   obtain ⟨g7, hg7⟩ : ∃ g, g = w.heap.size + 1 + 1 + 1 + 1 := ⟨_, rfl⟩
   have l67 : w.heap.size + 1 + 1 + 1 < g7 := by omega
   rw [← hg7] at b7 ⊢
   clear hg7
   obtain ⟨g6, hg6⟩ : ∃ g, g = w.heap.size + 1 + 1 + 1 := ⟨_, rfl⟩
   have l56 : w.heap.size + 1 + 1 < g6 := by omega
   rw [← hg6] at b6 l67 ⊢
   clear hg6
   obtain ⟨g5, hg5⟩ : ∃ g, g = w.heap.size + 1 + 1 := ⟨_, rfl⟩
   have l45 : w.heap.size + 1 < g5 := by omega
   rw [← hg5] at b5 l56 ⊢
   clear hg5
   obtain ⟨g4, hg4⟩ : ∃ g, g = w.heap.size + 1 := ⟨_, rfl⟩
   have l24 : w.heap.size < g4 := by omega
   rw [← hg4] at b4 l45 ⊢
   clear hg4
   have hu0 := ByT.nil W 0
   have hu1 := ByT.nil W 0
   clear b2 h
   have hx := hx.drew
   have b4 := b4.drew
   have b5 := b5.drew
   have b6 := b6.drew
   have b7 := b7.drew
   have hu0 := hu0.ext ((Below.refl _ _).drew)
   have hu1 := hu1.ext ((Below.refl _ _).drew)
   refine wp_region_keep w.heap.size [g6, g7] 4 [0, 1] true rfl (by kernel_rfl) (by kernel_rfl) ?_
   generalize W.drew = D at hx b4 b5 b6 b7 hu0 hu1 ⊢
   apply mixF 0 (by kernel_rfl) (by rfl) (by rfl)
   ·(intro w' hx; obtain ⟨a0, a1, a2, a3, a4, a5, a6, a7⟩ := (b6.xk hx (by simp)).c8; go_simp <;> with_reducible rfl)
   simp only [pA, pB, pC, pD]
   apply mixF 1 (by kernel_rfl) (by rfl) (by rfl)
   ·(intro w' hx; obtain ⟨a0, a1⟩ := (b7.xk hx (by simp)).c2; go_simp <;> with_reducible rfl)
   simp only [pA, pB, pC, pD]
   refine mixS 2 (by kernel_rfl) (by kernel_rfl) (by rfl) (by rfl) (fun K hK => ?_)
   obtain ⟨a0, a1, a2, a3, a4, a5, a6, a7⟩ := b4.c8
   have a8 := b4.free
   go_wp2
   refine hK.out _ _ (by repeat (with_reducible (first | exact XK.refl _ _ _ | refine xk_set ?_ (by omega) (by simp; omega) _ _))) ?_
   clear hK K a0 a1 a2 a3 a4 a5 a6 a7 a8
   try simp only [pA, pB, pC, pD]
   generalize hwn : World.setCell (World.setCell (World.setCell (World.setCell (World.setCell (World.setCell (World.setCell (World.setCell D _ _) _ _) _ _) _ _) _ _) _ _) _ _) _ _ = w1
   have k4 := b4.kd
   have b4 : B8 w1 g4 ⟨0, 0, 0, []⟩ ⟨0, 0, 0, []⟩ (.slice none 0 0) (.slice none 0 0) := by rw [← hwn]; exact put8b (put8a b4)
   have b5 : Box w1 g5 143 #[.bool false, .bool false] := by rw [← hwn]; (repeat (with_reducible (first | assumption | refine Box.alloc ?_ _ | refine Box.setOther ?_ (by simp <;> omega) _)))
   have hu0 : ByT w1 0 (.slice none 0 0) [] := hu0.kept (T := []) (by rw [← hwn]; (repeat (with_reducible (first | assumption | exact Kept.refl _ _ _ | (apply Kept.setK; rotate_left; (repeat (first | assumption | apply Kd.set | apply Kd.alloc | apply Kd.drew)); decide; omega) | refine Kept.allocK ?_ _ | refine Kept.drewK ?_))))
   have hu1 : ByT w1 0 (.slice none 0 0) [] := hu1.kept (T := []) (by rw [← hwn]; (repeat (with_reducible (first | assumption | exact Kept.refl _ _ _ | (apply Kept.setK; rotate_left; (repeat (first | assumption | apply Kd.set | apply Kd.alloc | apply Kd.drew)); decide; omega) | refine Kept.allocK ?_ _ | refine Kept.drewK ?_))))
   have hx : Ext w w1 := by rw [← hwn]; (repeat (with_reducible (first | assumption | exact Below.refl _ _ | refine Below.setCell ?_ (by simp <;> omega) _ | refine Below.alloc ?_ (by simp <;> omega) _ | refine Below.drew ?_ | refine below_drewN ?_ _)))
   clear hwn k4 b6 b7
   refine mixLast 3 (by kernel_rfl) (by kernel_rfl) (by kernel_rfl) (by rfl) (by rfl) (fun K hK => ?_)
   have hK' := Lib.hid hK
   clear hK
   obtain ⟨a0, a1⟩ := b5.c2
   have a8 := b5.free
   have a9 := b4.c8
   have k5 := b5.kd
   obtain ⟨a10, a11, a12, a13, a14, a15, a16, a17⟩ := b4.c8
   go_wp2
   refine hK'.out _ _ ?_
   clear hK' K
   refine NoPanic.normal ?_
   go_wp2_with fail
   ((try simp only [Exit.inBlock, Exit.then]); refine bodyPost_ret (v := ?_) ?resultOf rfl ?_; case resultOf => (rw [results_cells rfl]; go_simp; rfl))
   refine ⟨_, _, by rw [HBO.out], ?_, ?_, ?_⟩
   ·rw [HBO.out]
    exact hu0.kept (T := []) (by (repeat (with_reducible (first | assumption | exact Kept.refl _ _ _ | (apply Kept.setK; rotate_left; (repeat (first | assumption | apply Kd.set | apply Kd.alloc | apply Kd.drew)); decide; omega) | refine Kept.allocK ?_ _ | refine Kept.drewK ?_))))
   ·rw [HBO.out]
    exact hu1.kept (T := []) (by (repeat (with_reducible (first | assumption | exact Kept.refl _ _ _ | (apply Kept.setK; rotate_left; (repeat (first | assumption | apply Kd.set | apply Kd.alloc | apply Kd.drew)); decide; omega) | refine Kept.allocK ?_ _ | refine Kept.drewK ?_))))
   ·(repeat (with_reducible (first | assumption | exact Below.refl _ _ | refine Below.setCell ?_ (by simp <;> omega) _ | refine Below.alloc ?_ (by simp <;> omega) _ | refine Below.drew ?_ | refine below_drewN ?_ _)))
end Go.Proofs.YtdmnmfnmaccmoaaGreatDoor
