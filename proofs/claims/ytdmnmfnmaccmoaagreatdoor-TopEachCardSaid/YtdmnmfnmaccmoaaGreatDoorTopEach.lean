/- The law TopEach: to each their own. -/
import Derived.Test.YtdmnmfnmaccmoaaGreatDoorTpA
import Derived.Test.YtdmnmfnmaccmoaaGreatDoorSt9
import Derived.Test.YtdmnmfnmaccmoaaGreatDoorStL
namespace Go.Proofs.YtdmnmfnmaccmoaaGreatDoor
open Go Go.RowKit
abbrev OwnW (w : World) (b n : Nat) (D : DataW Unit) : Prop := w.ownsMap Tryz.prog 3 (plainElem Tryz.prog 9) b n D
theorem OwnW.ext {w w' : World} {b n : Nat} {D : DataW Unit} (h : OwnW w b n D) (k : Ext w w') : OwnW w' b n D := by
 have hl := h.lt
 obtain ⟨es, clock, e1, e2, e3, e4⟩ := h
 exact ⟨es, clock, (k.block b hl).trans e1, e2, e3, e4⟩
theorem OwnW.setOther {w : World} {b n : Nat} {D : DataW Unit} (h : OwnW w b n D) {p : Addr} (hp : b ≠ p.block) (u : Value) : OwnW (w.setCell p u) b n D := by
 obtain ⟨es, clock, e1, e2, e3, e4⟩ := h
 exact ⟨es, clock, (Below.heap_setCell w p u b hp).trans e1, e2, e3, e4⟩
theorem OwnW.noCells {w : World} {b n : Nat} {D : DataW Unit} (h : OwnW w b n D) {cur : Array Value} {t : TypeId} {fr : Nat × Nat} : w.heap[b]? ≠ some (.cells cur t fr) := by
 obtain ⟨es, clock, e1, _⟩ := h
 intro e
 rw [e] at e1
 cases e1
abbrev RanW (w : World) (b r n : Nat) (D : DataW Unit) (left : Lit → Bool) (cnt : Nat) : Prop := w.ranges Tryz.prog 3 (plainElem Tryz.prog 9) b r n D left cnt
theorem RanW.ext {w w' : World} {b r n cnt : Nat} {D : DataW Unit} {left : Lit → Bool} (h : RanW w b r n D left cnt) (k : Ext w w') : RanW w' b r n D left cnt := by
 have h1 := h.owns.lt
 have h2 := h.lt
 obtain ⟨es, clock, since, seen, c0, hb, F, hs, hD, hr, rest⟩ := h
 exact ⟨es, clock, since, seen, c0, (k.block b h1).trans hb, F, hs, hD, (k.block r h2).trans hr, rest⟩
theorem RanW.noCells {w : World} {b r n cnt : Nat} {D : DataW Unit} {left : Lit → Bool} (h : RanW w b r n D left cnt) {cur : Array Value} {t : TypeId} {fr : Nat × Nat} : w.heap[r]? ≠ some (.cells cur t fr) := by
 obtain ⟨es, clock, since, seen, c0, hb, F, hs, hD, hr, rest⟩ := h
 intro e
 rw [e] at hr
 cases hr
theorem wf_key {k : Int} (h : 1 ≤ k ∧ k ≤ 255) : (Lit.int .i64 k).wf = true := wf_i64 (by omega) (by omega)
set_option maxRecDepth 100000 in
theorem str_inv {v : Value} {z : DataW Unit × List MemPlace} (h : plainElem Tryz.prog 9 v = some z) : ∃ s : ByteArray, v = .string s ∧ z = (.lit (.string s.data.toList), []) := by
 unfold plainElem at h
 rw [Tryz.underlying9] at h
 cases v <;> simp at h
 exact ⟨_, rfl, h.2.symm⟩
theorem wpl_sput {w : World} {b n : Nat} {D : DataW Unit} {s : ByteArray} {k : Int} {ops : Array Oper} {rest : List Oper} {o : Oper} {a : Act} {Q : Exit → Act → World → Prop} (hg : o.guard = none) (m x v : Operand) (hop : o.op = Op.mapUpdate 56 m x v)
  (hm : a.eval m = .map (some b)) (h : OwnW w b n D) (hn : n < maxLen) (hx : a.eval x = .int .i64 k) (hk : 1 ≤ k ∧ k ≤ 255) (hv : a.eval v = .string s) (hs : s.size ≤ maxLen)
  (hK : ∀ w', OwnW w' b (n + 1) (D.put (.int .i64 k) (.lit (.string s.data.toList))) → w.grownBy w' (some b) → wpList Tryz.prog ops Q rest (a.put o.dst undef) w') : wpList Tryz.prog ops Q (o :: rest) a w := by
 refine wpList_plain hg fun K' hK' => ?_
 obtain ⟨w', hrun, r1, r2⟩ := h.update (Maps.int_keyed Tryz.underlying3) Tryz.underlying56 hn (Maps.keyOf_int_mk Tryz.underlying3 (wf_key hk)) (plainElem_string Tryz.underlying9 hs)
 unfold Oper.wp
 simp [execOp, hop, hm, hx, hv, hrun, Result.andThen]
 exact hK' _ _ (hK w' r1 r2)
theorem two_is {a x : Int} (h0 : 0 ≤ a ∧ a < 256) (h1 : 0 ≤ x ∧ x < 256) : u8s [b8 a, b8 x] = [.int .u8 a, .int .u8 x] := by
 have e : ∀ z : Int, 0 ≤ z ∧ z < 256 → u8v (b8 z) = .int .u8 z := fun z hz => by
  unfold u8v b8
  rw [UInt8.toNat_ofNat']
  congr 1
  omega
 show [u8v (b8 a), u8v (b8 x)] = _
 rw [e a h0, e x h1]
theorem walk_one : yWalkTo sNew [⟨6, 0, 0, dNo⟩] = 1 := by decide +kernel
theorem each_at {keys : List Int} {i : Nat} {s : Sto} (h : Each keys i s) {x : Int} {l : List UInt8} (hat : ∀ zd, (wMap keys i).atKey (.int .i64 x) zd = .lit (.string l)) : sGet s x = (l, 0) := by
 have h1 := hat (.lit (.bool true))
 rw [wMap_at] at h1
 cases hw : wTo keys i x with
 | none => rw [hw] at h1; injection h1 with h1; cases h1
 | some b =>
  rw [hw] at h1
  injection h1 with h1
  injection h1 with h1
  rw [← h1]
  exact (h.got x b hw).get
theorem toBytes (s : ByteArray) : (⟨s.data.toList.toArray⟩ : ByteArray) = s := by
 cases s
 simp
set_option maxRecDepth 100000 in
set_option maxHeartbeats 8000000 in
theorem topEach_law (W : World) (hV : VarT W) {v : Value} {keys : List Int} {bits : Int} (h : Row eInt [] W W.heap.size v keys) :
  Calls Tryz.prog 6 #[v, .int .i64 bits] W fun e w' => e = .returned (.bool true) ∧ Below W.heap.size W w' := by
 obtain ⟨A, n, c, rfl, hc, hcm, HN⟩ := h.form
 unfold maxLen at hcm
 have hx : Ext W W := Below.refl _ _
 have hmm := @run_makeMap Tryz.prog
 go_enter Tryz.func6, Tryz.ntmps6
 go_wp2_with fail
 refine (aliveT_w hV).mono ?_
 rintro e1 w1 ⟨rfl, he⟩
 have hx := ext_trans hx he
 have h := h.ext he
 clear he
 by_cases h3 : 3 < n
 ·have q1 : decide ((3 : Int) < (n : Int)) = true := by simp; omega
  have q2 : decide (3 < n) = true := by simp; omega
  clear h3
  go_wp2_with fail
  go_ret
  exact ⟨rfl, hx⟩
 have q1 : decide ((3 : Int) < (n : Int)) = false := by simp; omega
 have q2 : decide (3 < n) = false := by simp; omega
 have hn3 : n ≤ 3 := by omega
 clear h3 hV
 go_wp2_with fail
 refine (stoNew_v _).mono ?_
 rintro e2 w2 ⟨v2, rfl, s2, he⟩
 have hx := ext_trans hx he
 have h := h.ext he
 clear he
 clear q1 q2
 obtain ⟨A2, n2, c2, E2, m2, e2, F2, k2, f2, rfl, _, _, _, _, _, _, _, _⟩ := s2.form
 have l5 := hx.size
 go_upto_region 6 with (fail)
 generalize hwn : World.alloc w2 _ = w3
 have he : Ext w2 w3 := by rw [← hwn]; exact ext_alloc _ _
 have b5 : Box w3 w2.heap.size 30 #[.slice A2 n2 c2, .slice E2 m2 e2, .slice F2 k2 f2, .int .i64 sNew.next] := by rw [← hwn]; exact Box.new _ _ _ (by simp)
 clear hwn
 have hx := ext_trans hx he
 have h := h.ext he
 have s2 := s2.ext he
 clear he
 obtain ⟨g5, hg5⟩ : ∃ g, g = w2.heap.size := ⟨_, rfl⟩
 rw [← hg5] at b5 l5
 rw [← hg5]
 clear hg5
 have lm := b5.lt
 go_upto_region 8 with (fail)
 generalize hwn : World.alloc w3 _ = w4
 have he : Ext w3 w4 := by rw [← hwn]; exact ext_alloc _ _
 have om : OwnW w4 w3.heap.size 0 (wMap keys 0) := by rw [← hwn]; exact World.ownsMap_made _ _ _ _
 clear hwn hmm
 have hx := ext_trans hx he
 have h := h.ext he
 have s2 := s2.ext he
 have b5 := b5.ext he
 clear he
 obtain ⟨gm, hgm⟩ : ∃ g, g = w3.heap.size := ⟨_, rfl⟩
 rw [← hgm] at om lm
 rw [← hgm]
 clear hgm
 have s5 := s2
 clear s2
 go_loopw [28] (fun i wr => ∃ a : Nat, a ≤ n ∧ i = .int .i64 a ∧ Hid (∀ j, j < a → 1 ≤ keys.getD j 0 ∧ keys.getD j 0 ≤ 255) ∧ (∃ A n c E m e F k f, Box wr g5 30 #[.slice A n c, .slice E m e, .slice F k f, .int .i64 (eTo keys bits a).next] ∧ StoV tS wr 0 (.agg #[.slice A n c, .slice E m e, .slice F k f, .int .i64 (eTo keys bits a).next]) (eTo keys bits a)) ∧ OwnW wr gm a (wMap keys a) ∧ Row eInt [] wr W.heap.size (.slice A n c) keys ∧ Ext W wr) (fun i _ => n - (intOf i).toNat)
 case atStart => exact ⟨0, by omega, rfl, Lib.hid (fun j hj => by omega), ⟨_, _, _, _, _, _, _, _, _, b5, s5⟩, om, h, hx⟩
 case round =>
  clear hx b5 s5 h om
  obtain ⟨a, ha, rfl, HL, ⟨A3, n3, c3, E3, m3, e3, F3, k3, f3, b5, s5⟩, om, h, hx⟩ := hrel
  have hz := hx.size
  have l5z := b5.lt
  have lmz := om.lt
  have HEA := Lib.hid (each_all (bits := bits) (show a ≤ 3 by omega) HL.out a (Nat.le_refl _))
  by_cases hlt : a < n
  ·have i0 : (0 : Int) ≤ (a : Int) := by omega
   have i1 : (a : Int) < (n : Int) := by omega
   have a3 : a < 3 := by omega
   obtain ⟨g1, o1, rfl, hg1, cu⟩ := h.int_at (i := a) hlt
   obtain ⟨x, hxx⟩ : ∃ x, x = keys.getD a 0 := ⟨_, rfl⟩
   rw [← hxx] at cu
   have HX := Lib.hid hxx
   clear hxx
   by_cases x0 : x < 1
   ·have q1 : decide (x < 1) = true := by simpa using x0
    clear x0
    go_wp2_with fail
    go_ret
    exact ⟨rfl, hx⟩
   have q1 : decide (x < 1) = false := by simpa using x0
   by_cases x1 : 255 < x
   ·have q2 : decide (255 < x) = true := by simpa using x1
    clear x0 x1
    go_wp2_with fail
    go_ret
    exact ⟨rfl, hx⟩
   have q2 : decide (255 < x) = false := by simpa using x1
   have hxb : 1 ≤ x ∧ x ≤ 255 := by omega
   have HL2 : Hid (∀ j, j < a + 1 → 1 ≤ keys.getD j 0 ∧ keys.getD j 0 ≤ 255) := Lib.hid fun j hj => by
    by_cases e : j < a
    ·exact HL.out j e
    ·have : j = a := by omega
     rw [this, ← HX.out]
     exact hxb
   have HD := Lib.hid (show dEach keys a = dPut7 x [b8 (a : Int), b8 x] by unfold dEach; rw [← HX.out])
   have hes := each_step a3 (by rw [← HX.out]; exact hxb) HEA.out bits
   rw [HD.out] at hes
   have HE1 := Lib.hid hes.1
   have HE2 := Lib.hid hes.2.1
   have HNX : Hid ((sDo (yDo (eTo keys bits a) ⟨2, bits, 0, dPut7 x [b8 (a : Int), b8 x]⟩).1 (dPut7 x [b8 (a : Int), b8 x])).1 = eTo keys bits (a + 1)) := Lib.hid (by rw [← HD.out]; rfl)
   have HWM : Hid (wMap keys (a + 1) = (wMap keys a).put (.int .i64 x) (.lit (.string [b8 (a : Int), b8 x]))) := Lib.hid (by rw [HX.out]; rfl)
   have HU := Lib.hid (two_is (a := (a : Int)) (x := x) (by omega) (by omega))
   have hw1 : IntKind.wrap .u8 (a : Int) = (a : Int) := by rw [IntKind.wrap_u8]; omega
   have hw2 : IntKind.wrap .u8 x = x := by rw [IntKind.wrap_u8]; omega
   clear x0 x1 hes
   go_upto_region 13 with (fail)
   generalize hwn : World.alloc (World.alloc wr _) _ = w5
   have he : Ext wr w5 := by rw [← hwn]; exact (ext_alloc _ _).alloc (by simp) _
   have hby : ByT w5 0 (.slice (some ⟨wr.heap.size, 0, none⟩) 2 2) [b8 (a : Int), b8 x] := by
    rw [← hwn]
    have e := ByT.of_own (base := 0) (own_lit wr (u8s [b8 (a : Int), b8 x]) 5 (base := wr.heap.size) (size := 1) (n := 2) (Nat.le_refl _) rfl (by unfold maxLen; omega))
    rw [HU.out] at e
    exact e.ext (ext_alloc _ _)
   have b9 : Box w5 (wr.heap.size + 1) 34 #[.int .i64 1, .int .i64 x, .int .i64 0, .slice (some ⟨wr.heap.size, 0, none⟩) 2 2] := by rw [← hwn]; exact Box.new _ _ _ (size_alloc _ _).symm
   clear hwn hw1 hw2 q1 q2
   have hx := ext_trans hx he
   have h := h.ext he
   have s5 := s5.ext he
   have b5 := b5.ext he
   have om := om.ext he
   clear he
   obtain ⟨gd, hgd⟩ : ∃ g, g = wr.heap.size := ⟨_, rfl⟩
   rw [← hgd] at b9 hby l5z lmz hz
   rw [← hgd]
   clear hgd
   obtain ⟨g9, hg9⟩ : ∃ g, g = gd + 1 := ⟨_, rfl⟩
   rw [← hg9] at b9
   rw [← hg9]
   have l9 : gd < g9 := by omega
   clear hg9
   obtain ⟨b5_0, b5_1, b5_2, b5_3⟩ := b5.c4
   have b5_z := b5.free
   have b5_l := b5.lt
   obtain ⟨b9_0, b9_1, b9_2, b9_3⟩ := b9.c4
   have b9_z := b9.free
   have b9_l := b9.lt
   go_wp2_with fail
   refine (playDo_v (x := ⟨2, bits, 0, dPut7 x [b8 (a : Int), b8 x]⟩) s5 HEA.out.tight.good ⟨_, rfl, hby⟩).mono ?_
   rintro e6 w6 ⟨v6, rfl, s6, he⟩
   try clear b5_0 b5_1 b5_2 b5_3 b5_z b5_l b9_0 b9_1 b9_2 b9_3 b9_z b9_l
   have hx := ext_trans hx he
   have h := h.ext he
   have b5 := b5.ext he
   have b9 := b9.ext he
   have om := om.ext he
   have hby := hby.ext he
   clear he
   generalize (yDo (eTo keys bits a) ⟨2, bits, 0, dPut7 x [b8 (a : Int), b8 x]⟩).2.1 = nn
   generalize (yDo (eTo keys bits a) ⟨2, bits, 0, dPut7 x [b8 (a : Int), b8 x]⟩).2.2 = qq
   generalize (yDo (eTo keys bits a) ⟨2, bits, 0, dPut7 x [b8 (a : Int), b8 x]⟩).1 = y1 at s6 HE1 HE2 HNX
   clear s5 HEA HD
   generalize eTo keys bits a = y at b5
   obtain ⟨A6, n6, c6, E6, m6, e6, F6, k6, f6, rfl, _, _, _, _, _, _, _, _⟩ := s6.form
   have kb := b5.kd
   obtain ⟨b5_0, b5_1, b5_2, b5_3⟩ := b5.c4
   have b5_z := b5.free
   have b5_l := b5.lt
   go_upto_region 14 with (fail)
   try clear b5_0 b5_1 b5_2 b5_3 b5_z b5_l
   generalize hwn : World.setCell (World.setCell (World.setCell (World.setCell w6 _ _) _ _) _ _) _ _ = w7
   have s6 := s6.kept (w' := w7) (by rw [← hwn]; (repeat (with_reducible (first | assumption | exact Kept.refl _ _ _ | (apply Kept.setK; rotate_left; (repeat (first | assumption | apply Kd.set | apply Kd.alloc | apply Kd.drew)); decide; omega) | refine Kept.allocK ?_ _ | refine Kept.drewK ?_))))
   have h := h.kept (w' := w7) (by rw [← hwn]; (repeat (with_reducible (first | assumption | exact Kept.refl _ _ _ | (apply Kept.setK; rotate_left; (repeat (first | assumption | apply Kd.set | apply Kd.alloc | apply Kd.drew)); decide; omega) | refine Kept.allocK ?_ _ | refine Kept.drewK ?_))))
   have hx : Ext W w7 := by rw [← hwn]; (repeat (with_reducible (first | assumption | exact Below.refl _ _ | refine Below.setCell ?_ (by simp <;> omega) _ | refine Below.alloc ?_ (by simp <;> omega) _ | refine Below.drew ?_ | refine below_drewN ?_ _)))
   have om : OwnW w7 gm a (wMap keys a) := by rw [← hwn]; exact (((om.setOther (p := ⟨g5, 0, none⟩) (show gm ≠ g5 by omega) _).setOther (p := ⟨g5, 1, none⟩) (show gm ≠ g5 by omega) _).setOther (p := ⟨g5, 2, none⟩) (show gm ≠ g5 by omega) _).setOther (p := ⟨g5, 3, none⟩) (show gm ≠ g5 by omega) _
   have b9 : Box w7 g9 34 #[.int .i64 1, .int .i64 x, .int .i64 0, .slice (some ⟨gd, 0, none⟩) 2 2] := by rw [← hwn]; (repeat (with_reducible (first | assumption | refine Box.alloc ?_ _ | refine Box.setOther ?_ (by simp <;> omega) _)))
   have hby := hby.kept (T := []) (w' := w7) (by rw [← hwn]; (repeat (with_reducible (first | assumption | exact Kept.refl _ _ _ | (apply Kept.setK; rotate_left; (repeat (first | assumption | apply Kd.set | apply Kd.alloc | apply Kd.drew)); decide; omega) | refine Kept.allocK ?_ _ | refine Kept.drewK ?_))))
   have b5 : Box w7 g5 30 #[.slice A6 n6 c6, .slice E6 m6 e6, .slice F6 k6 f6, .int .i64 y1.next] := by rw [← hwn]; exact (((b5.set 0 _).set 1 _).set 2 _).set 3 _
   clear hwn kb
   obtain ⟨b5_0, b5_1, b5_2, b5_3⟩ := b5.c4
   have b5_z := b5.free
   have b5_l := b5.lt
   obtain ⟨b9_0, b9_1, b9_2, b9_3⟩ := b9.c4
   have b9_z := b9.free
   have b9_l := b9.lt
   go_wp2_with fail
   refine (playDo_v (x := ⟨1, 0, 0, dPut7 x [b8 (a : Int), b8 x]⟩) s6 HE1.out.good ⟨_, rfl, hby⟩).mono ?_
   rintro e8 w8 ⟨v8, rfl, s8, he⟩
   try clear b5_0 b5_1 b5_2 b5_3 b5_z b5_l b9_0 b9_1 b9_2 b9_3 b9_z b9_l
   have hx := ext_trans hx he
   have h := h.ext he
   have b5 := b5.ext he
   have b9 := b9.ext he
   have om := om.ext he
   have hby := hby.ext he
   clear he
   rw [do_is, HE2.out]
   rw [do_is, HNX.out] at s8
   generalize (sDo y1 (dPut7 x [b8 (a : Int), b8 x])).2.1 = nn2
   generalize hz1 : eTo keys bits (a + 1) = z at s8
   have HZ := Lib.hid hz1
   clear hz1 s6 HE1 HE2 HNX
   obtain ⟨A8, n8, c8, E8, m8, e8, F8, k8, f8, rfl, _, _, _, _, _, _, _, _⟩ := s8.form
   go_upto_region 15 with (fail)
   generalize hwn : World.alloc w8 _ = w10
   have he : Ext w8 w10 := by rw [← hwn]; exact ext_alloc _ _
   have b10 : Box w10 w8.heap.size 30 #[.slice A8 n8 c8, .slice E8 m8 e8, .slice F8 k8 f8, .int .i64 z.next] := by rw [← hwn]; exact Box.new _ _ _ (by simp)
   clear hwn
   have l10 := b5.lt
   have l109 := b9.lt
   have l10m := om.lt
   have hx := ext_trans hx he
   have h := h.ext he
   have b5 := b5.ext he
   have b9 := b9.ext he
   have om := om.ext he
   have hby := hby.ext he
   have s8 := s8.ext he
   clear he
   obtain ⟨g10, hg10⟩ : ∃ g, g = w8.heap.size := ⟨_, rfl⟩
   rw [← hg10] at b10 l10 l109 l10m
   rw [← hg10]
   clear hg10
   have kb := b5.kd
   obtain ⟨b5_0, b5_1, b5_2, b5_3⟩ := b5.c4
   have b5_z := b5.free
   have b5_l := b5.lt
   obtain ⟨b10_0, b10_1, b10_2, b10_3⟩ := b10.c4
   have b10_z := b10.free
   have b10_l := b10.lt
   go_upto_region 18 with (fail)
   try clear b5_0 b5_1 b5_2 b5_3 b5_z b5_l b10_0 b10_1 b10_2 b10_3 b10_z b10_l
   generalize hwn : World.setCell (World.setCell (World.setCell (World.setCell w10 _ _) _ _) _ _) _ _ = w11
   have s8 := s8.kept (w' := w11) (by rw [← hwn]; (repeat (with_reducible (first | assumption | exact Kept.refl _ _ _ | (apply Kept.setK; rotate_left; (repeat (first | assumption | apply Kd.set | apply Kd.alloc | apply Kd.drew)); decide; omega) | refine Kept.allocK ?_ _ | refine Kept.drewK ?_))))
   have h := h.kept (w' := w11) (by rw [← hwn]; (repeat (with_reducible (first | assumption | exact Kept.refl _ _ _ | (apply Kept.setK; rotate_left; (repeat (first | assumption | apply Kd.set | apply Kd.alloc | apply Kd.drew)); decide; omega) | refine Kept.allocK ?_ _ | refine Kept.drewK ?_))))
   have hx : Ext W w11 := by rw [← hwn]; (repeat (with_reducible (first | assumption | exact Below.refl _ _ | refine Below.setCell ?_ (by simp <;> omega) _ | refine Below.alloc ?_ (by simp <;> omega) _ | refine Below.drew ?_ | refine below_drewN ?_ _)))
   have om : OwnW w11 gm a (wMap keys a) := by rw [← hwn]; exact (((om.setOther (p := ⟨g5, 0, none⟩) (show gm ≠ g5 by omega) _).setOther (p := ⟨g5, 1, none⟩) (show gm ≠ g5 by omega) _).setOther (p := ⟨g5, 2, none⟩) (show gm ≠ g5 by omega) _).setOther (p := ⟨g5, 3, none⟩) (show gm ≠ g5 by omega) _
   have b9 : Box w11 g9 34 #[.int .i64 1, .int .i64 x, .int .i64 0, .slice (some ⟨gd, 0, none⟩) 2 2] := by rw [← hwn]; (repeat (with_reducible (first | assumption | refine Box.alloc ?_ _ | refine Box.setOther ?_ (by simp <;> omega) _)))
   have hby := hby.kept (T := []) (w' := w11) (by rw [← hwn]; (repeat (with_reducible (first | assumption | exact Kept.refl _ _ _ | (apply Kept.setK; rotate_left; (repeat (first | assumption | apply Kd.set | apply Kd.alloc | apply Kd.drew)); decide; omega) | refine Kept.allocK ?_ _ | refine Kept.drewK ?_))))
   have b5 : Box w11 g5 30 #[.slice A8 n8 c8, .slice E8 m8 e8, .slice F8 k8 f8, .int .i64 z.next] := by rw [← hwn]; exact (((b5.set 0 _).set 1 _).set 2 _).set 3 _
   clear hwn kb
   obtain ⟨_, _, _, eb, hbb, _⟩ := hby.form
   cases eb
   have hs := run_str hbb
   obtain ⟨sb, hsb⟩ : ∃ b : ByteArray, b = ⟨[b8 (a : Int), b8 x].toArray⟩ := ⟨_, rfl⟩
   have HSB := Lib.hid (show sb.data.toList = [b8 (a : Int), b8 x] by rw [hsb])
   have hsz : sb.size ≤ maxLen := by rw [hsb]; exact (show (2 : Nat) ≤ maxLen by unfold maxLen; omega)
   rw [← hsb] at hs
   clear hsb hbb hby
   have l11 := b5.lt
   obtain ⟨b9_0, b9_1, b9_2, b9_3⟩ := b9.c4
   have b9_z := b9.free
   have b9_l := b9.lt
   go_upto_region 19 with (at_mapUpdate; (refine wpl_sput rfl (.tmp 66) (.tmp 67) (.tmp 70) rfl rfl om (by unfold maxLen; omega) rfl hxb rfl hsz ?_; intro w12 om12 hg12))
   try clear b9_0 b9_1 b9_2 b9_3 b9_z b9_l
   rw [HSB.out, ← HWM.out] at om12
   have lgw : W.heap.size ≤ gm := by omega
   have hnc := fun cur t => om.noCells (cur := cur) (t := t) (fr := (0, 0))
   have hx : Ext W w12 := hx.grown hg12 hx.size (fun k e => by cases e; exact lgw)
   have b5 : Box w12 g5 30 #[.slice A8 n8 c8, .slice E8 m8 e8, .slice F8 k8 f8, .int .i64 z.next] := (hg12.block _ b5.lt (fun e => by injection e with e; omega)).trans b5
   have s8 := s8.kept (Kept.grown hg12 fun g e => by cases e; exact ⟨Nat.zero_le _, fun cur t _ => hnc cur t⟩)
   have h := h.kept (Kept.grown hg12 fun g e => by cases e; exact ⟨lgw, fun cur t _ => hnc cur t⟩)
   clear om hg12 hnc hs hsz
   go_wp2_with fail
   refine ⟨⟨a + 1, by omega, rfl, HL2, ⟨_, _, _, _, _, _, _, _, _, by rw [HZ.out]; exact b5, by rw [HZ.out]; exact s8⟩, om12, h, hx⟩, ?_⟩
   simp only [intOf]
   omega
  ·obtain rfl : a = n := by omega
   have HD0 := Lib.hid (wMap_size keys a)
   have HLS := Lib.hid (each_list (n := a) HL.out HEA.out)
   have HEG := Lib.hid (fun (x : Int) (l : List UInt8) hat => each_at HEA.out (x := x) (l := l) hat)
   have HG := Lib.hid HEA.out.tight.good
   have lgw : W.heap.size ≤ gm := by omega
   clear HEA HL hlt ha h
   generalize eTo keys bits a = y at b5 s5 HLS HEG HG
   generalize hD : wMap keys a = D at om HD0 HEG
   clear hD
   go_upto_region 21 with (at_range; (refine wpList_range_own _ rfl _ 56 rfl 3 9 (Maps.int_keyed Tryz.underlying3) Tryz.underlying56 (plainElem Tryz.prog 9) gm a D rfl om ?_; intro w0 hrg0 hg0 hs0))
   have he : Ext wr w0 := (Below.refl _ _).grown hg0 (Nat.le_refl _) (fun k hk => by cases hk)
   have lr : gm < wr.heap.size := om.lt
   have lr5 : g5 < wr.heap.size := b5.lt
   have lrW := hx.size
   have hx := ext_trans hx he
   have s5 := s5.ext he
   have b5 := b5.ext he
   clear he hg0 hs0 om hz
   obtain ⟨gr, hgr⟩ : ∃ g, g = wr.heap.size := ⟨_, rfl⟩
   rw [← hgr] at hrg0 lr lr5 lrW
   rw [← hgr]
   clear hgr
   go_frame
   go_loopw [13] (fun _ wr => ∃ (left : Lit → Bool) (cnt : Nat), RanW wr gm gr a D left cnt ∧ Box wr g5 30 #[.slice A3 n3 c3, .slice E3 m3 e3, .slice F3 k3 f3, .int .i64 y.next] ∧ StoV tS wr 0 (.agg #[.slice A3 n3 c3, .slice E3 m3 e3, .slice F3 k3 f3, .int .i64 y.next]) y ∧ Ext W wr) (fun _ wr => wr.rangeLeft gm gr)
   case atStart => exact ⟨_, _, hrg0, b5, s5, hx⟩
   case round =>
    clear hx b5 s5 hrg0
    obtain ⟨left, cnt, hrg, b5, s5, hx⟩ := hrel
    go_wp2_with (at_next; (refine wpList_next_ranges _ rfl _ rfl 3 (Maps.int_keyed Tryz.underlying3) (plainElem Tryz.prog 9) (Value.int .i64) Value.string (fun key kl hkey => by obtain ⟨x, rfl, _⟩ := Maps.keyOf_int_inv Tryz.underlying3 hkey; exact ⟨x, rfl⟩) (fun v y hv => by obtain ⟨s, rfl, _⟩ := str_inv hv; exact ⟨s, rfl⟩) gm gr a D left cnt rfl hrg ?_ ?_))
    ·intro _ _
     have om : OwnW wr gm a D := hrg.owns
     clear hrg
     go_wp2_with fail
     generalize hwn : World.alloc wr _ = w2
     have he : Ext wr w2 := by rw [← hwn]; exact ext_alloc _ _
     have hl : Row eStp [] w2 w2.heap.size (.slice (some ⟨wr.heap.size, 0, none⟩) 1 1) [⟨6, 0, 0, dNo⟩] := by
      rw [← hwn]
      have := steps_lit (w := wr) (T := []) [⟨6, 0, 0, dNo⟩] (by decide) (by unfold maxLen; decide) (0, 0)
      exact this.all
     clear hwn
     have hx := ext_trans hx he
     have b5 := b5.ext he
     have s5 := s5.ext he
     have om := om.ext he
     clear he
     refine (mayWalk_v hl).mono ?_
     rintro e3 w3 ⟨rfl, he⟩
     rw [walk_one]
     have hx := ext_trans hx he
     have b5 := b5.ext he
     have s5 := s5.ext he
     have om := om.ext he
     clear he hl
     obtain ⟨b5_0, b5_1, b5_2, b5_3⟩ := b5.c4
     have b5_z := b5.free
     have b5_l := b5.lt
     go_wp2_with fail
     refine (stoList_v (st := 1) (mo := 99) s5 HG.out.fine HG.out.right).mono ?_
     rintro e6 w6 ⟨v6, rfl, o6, he⟩
     try clear b5_0 b5_1 b5_2 b5_3 b5_z b5_l
     have hx := ext_trans hx he
     have b5 := b5.ext he
     have om := om.ext he
     clear he
     obtain ⟨A6, n6, c6, rfl, _, _, HN6⟩ := o6.form
     obtain rfl : n6 = Maps.size D := (HN6.out.trans HLS.out).trans HD0.out.symm
     have qq : (((Maps.size D : Nat) : Int) == ((Maps.size D : Nat) : Int)) = true := by simp
     clear HN6 o6 HLS HD0
     obtain ⟨b5_0, b5_1, b5_2, b5_3⟩ := b5.c4
     have b5_z := b5.free
     have b5_l := b5.lt
     have hln := fun ty => World.ownsMap.len om Tryz.underlying56 ty
     go_wp2_with fail
     go_ret
     exact ⟨rfl, hx⟩
    ·intro x s kl yd yp w1 cnt1 hkey hlk hv hat hrg1 hlt hg1 hs1 hen
     obtain ⟨x', ex, rfl, hwx⟩ := Maps.keyOf_int_inv Tryz.underlying3 hkey
     cases ex
     obtain ⟨s', es, ey⟩ := str_inv hv
     cases ey
     cases es
     have HGT := Lib.hid (HEG.out x s.data.toList hat)
     have hx : Ext W w1 := hx.grown hg1 hx.size (fun k e => by cases e; exact lrW)
     have b5 : Box w1 g5 30 #[.slice A3 n3 c3, .slice E3 m3 e3, .slice F3 k3 f3, .int .i64 y.next] := (hg1.block _ b5.lt (fun e => by injection e with e; omega)).trans b5
     have s5 := s5.kept (Kept.grown hg1 fun g e => by cases e; exact ⟨Nat.zero_le _, fun cur t _ => RanW.noCells hrg⟩)
     have hrg1 : RanW w1 gm gr a D _ cnt1 := hrg1
     have hlt2 : cnt1 < wr.rangeLeft gm gr := by rw [World.ranges.left_eq hrg]; exact hlt
     clear hkey hlk hv hat hg1 hs1 hwx hrg hlt
     obtain ⟨b5_0, b5_1, b5_2, b5_3⟩ := b5.c4
     have b5_z := b5.free
     have b5_l := b5.lt
     go_wp2_with fail
     refine (stoGet_v (key := x) s5 HG.out.fine HG.out.right).mono ?_
     rintro e5 w5 ⟨v5, q5, rfl, HQ, hy, he⟩
     try clear b5_0 b5_1 b5_2 b5_3 b5_z b5_l b5_0 b5_1 b5_2 b5_3 b5_z b5_l
     have hx := ext_trans hx he
     have b5 := b5.ext he
     have s5 := s5.ext he
     have hrg1 := hrg1.ext he
     clear he
     clear hen
     rw [HGT.out] at HQ hy
     obtain rfl : q5 = 0 := HQ.out
     obtain ⟨A5, n5, c5, rfl, hy, HN5⟩ := hy.form
     have hs := run_str hy
     rw [toBytes] at hs
     have qs : (s.toList == s.toList) = true := by simp
     clear HN5 HQ HGT hy
     go_wp2_with fail
     refine ⟨⟨_, cnt1, hrg1, b5, s5, hx⟩, ?_⟩
     rw [World.ranges.left_eq hrg1]
     exact hlt2
end Go.Proofs.YtdmnmfnmaccmoaaGreatDoor
