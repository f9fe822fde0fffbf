/- Walks: slices.IndexFunc and ContainsFunc of rows of records; may.Walk. -/
import Derived.Test.YtdmnmfnmaccmoaaGreatDoorSt5
import Derived.Test.YtdmnmfnmaccmoaaGreatDoorSt7
import Derived.Test.YtdmnmfnmaccmoaaGreatDoorSt8
import Derived.Test.YtdmnmfnmaccmoaaGreatDoorG2
import Derived.Shelf.Abstract
namespace Go.Proofs.YtdmnmfnmaccmoaaGreatDoor
open Go Go.RowKit
def AsksL (w : World) (g : Nat) (lb : Array Value) (p : List Rec → Bool) : Prop :=
 ∀ (W : World) (v : Value) (l : List Rec), Ext w W → Row eRec [] W W.heap.size v l → Calls Tryz.prog g (#[v] ++ lb) W fun e w' => e = .returned (.bool (p l)) ∧ Ext W w'
theorem lsIndex_v {u : Value} {ls : List (List Rec)} {w : World} {g : Nat} {lb : Array Value} {p : List Rec → Bool} (eg : ∀ args w, (callFunc g args).run Tryz.prog w = .ok (.enter g args) w)
  (h : RowR w u ls) (hp : AsksL w g lb p) :
  Calls Tryz.prog 54 #[u, .func (.func g) #[] lb] w fun e w' => ∃ z, e = .returned (.int .i64 z) ∧ Hid (decide ((0 : Int) ≤ z) = ls.any p) ∧ Ext w w' := by
 obtain ⟨A, m, c, rfl, hc, hcm, HM⟩ := h.form
 have HP := Lib.hid hp
 clear hp
 unfold maxLen at hcm
 go_enter Tryz.func54, Tryz.ntmps54
 go_wp2_with fail
 go_loopw [5, 8] (fun _ i wr => ∃ (a : Nat), a ≤ m ∧ i = .int .i64 a ∧ Hid (∀ j, j < a → p (ls.getD j []) = false) ∧ Ext w wr) (fun _ i _ => m - (intOf i).toNat)
 case atStart => exact ⟨0, by omega, rfl, Lib.hid (fun j hj => by omega), Below.refl _ _⟩
 case round =>
  obtain ⟨a, ha, rfl, hF, hd⟩ := hrel
  by_cases hlt : a < m
  ·have e0 : (0 : Int) ≤ (a : Int) := by omega
   have e1 : (a : Int) < (m : Int) := by omega
   obtain ⟨b, o, u, rfl, hb, c0, hu⟩ := (h.ext hd).at_ hlt
   have hal := Lib.hid (show a < ls.length from HM.out ▸ hlt)
   generalize hle : ls.getD a [] = l at hu
   have HLE := Lib.hid hle
   clear hle
   obtain ⟨A2, n2, c2', rfl, _, _⟩ := hu.form
   go_wp2_with (fail)
   refine (HP.out wr _ l hd hu).mono ?_
   rintro e9 w9 ⟨rfl, he9⟩
   cases hq : p l with
   | true =>
    have hi : Hid (ls.any p = true) := Lib.hid (by
     rw [List.any_eq_true]
     refine ⟨l, ?_, hq⟩
     rw [← HLE.out, List.getD_eq_getElem?_getD, List.getElem?_eq_getElem hal.out]
     exact List.getElem_mem _)
    clear hq
    go_wp2_with fail
    go_ret
    exact ⟨_, rfl, Lib.hid (by rw [hi.out]; exact decide_eq_true e0), ext_trans hd he9⟩
   | false =>
    have hm : Hid (∀ j, j < a + 1 → p (ls.getD j []) = false) := Lib.hid (fun j hj => by
     by_cases hja : j < a
     ·exact hF.out j hja
     ·have : j = a := by omega
      rw [this, HLE.out]
      exact hq)
    clear hq
    go_wp2_with fail
    refine ⟨⟨a + 1, by omega, rfl, hm, ext_trans hd he9⟩, ?_⟩
    simp only [intOf]
    omega
  ·have hno : Hid (ls.any p = false) := Lib.hid (by
    rw [List.any_eq_false]
    intro x hx
    obtain ⟨j, hj, rfl⟩ := List.getElem_of_mem hx
    have := hF.out j (by have := HM.out; omega)
    rw [List.getD_eq_getElem?_getD, List.getElem?_eq_getElem hj] at this
    simp only [Option.getD_some] at this
    rw [this]
    simp)
   go_wp2_with fail
   go_ret
   exact ⟨_, rfl, Lib.hid (by rw [hno.out]; rfl), hd⟩
theorem lsHas_v {u : Value} {ls : List (List Rec)} {w : World} {g : Nat} {lb : Array Value} {p : List Rec → Bool} (eg : ∀ args w, (callFunc g args).run Tryz.prog w = .ok (.enter g args) w)
  (h : RowR w u ls) (hp : AsksL w g lb p) :
  Calls Tryz.prog 29 #[u, .func (.func g) #[] lb] w fun e w' => e = .returned (.bool (ls.any p)) ∧ Ext w w' := by
 have HP := Lib.hid hp
 clear hp
 go_enter Tryz.func29, Tryz.ntmps29
 go_wp2_with fail
 refine (lsIndex_v eg h HP.out).mono ?_
 rintro e5 w5 ⟨z, rfl, hz, he5⟩
 go_wp2_with fail
 go_ret
 exact ⟨by rw [← hz.out]; rfl, he5⟩
theorem walkHit {w : World} {B : Nat} {nv : Value} {now : List Rec} (hb : Box w B 46 #[nv]) (hn : Row eRec [] w w.heap.size nv now) : AsksL w 31 #[.pointer (some ⟨B, 0, none⟩)] (fun l => mSame l now) := by
 intro W v l hW hv
 show Calls Tryz.prog 31 #[v, .pointer (some ⟨B, 0, none⟩)] W _
 have b1 := hb.ext hW
 have hn := hn.ext hW
 obtain ⟨A, n, c, rfl, _, _, _⟩ := hn.form
 obtain ⟨A2, n2, c2, rfl, _, _, _⟩ := hv.form
 go_enter Tryz.func31, Tryz.ntmps31
 have b1_0 := b1.c1
 have b1_z := b1.free
 have b1_l := b1.lt
 go_wp2_with fail
 refine (mSame_v hv hn).mono ?_
 rintro e5 w5 ⟨rfl, he5⟩
 try clear b1_0 b1_z b1_l
 go_wp2_with fail
 go_ret
 exact ⟨rfl, he5⟩
theorem walk_step {s : Sto} {l : List Stp} {a : Nat} (ha : a < l.length) : yWalkTo s (l.drop a) = if gentle s (l.getD a eStp.d) = true then yWalkTo (yDo s (l.getD a eStp.d)).1 (l.drop (a + 1)) + 1 else 0 := by
 have e : l.drop a = l.getD a eStp.d :: l.drop (a + 1) := by
  rw [List.drop_eq_getElem_cons ha, List.getD_eq_getElem?_getD, List.getElem?_eq_getElem ha]
  rfl
 rw [e]
 rfl
set_option maxRecDepth 100000 in
set_option maxHeartbeats 4000000 in
theorem mayWalk_v {T : List TypeId} {base : Nat} {v : Value} {l : List Stp} {w : World} (h : Row eStp T w base v l) :
  Calls Tryz.prog 14 #[v] w fun e w' => e = .returned (.tuple #[.int .i64 (yWalkTo sNew l : Nat), .bool true]) ∧ Ext w w' := by
 have eg := enters_of Tryz.func31 (by kernel_rfl) rfl
 have EG := Lib.hid eg
 clear eg
 have hl := h.all (T' := [])
 clear h
 obtain ⟨A, n, c, rfl, hc, hcm, HN⟩ := hl.form
 unfold maxLen at hcm
 have hx : Ext w w := Below.refl _ _
 go_enter Tryz.func14, Tryz.ntmps14
 go_wp2_with fail
 refine (stoNew_v _).mono ?_
 rintro e2 w2 ⟨v2, rfl, s2, he⟩
 have hx := ext_trans hx he
 clear he
 obtain ⟨A2, n2, c2, E2, m2, e2, F2, k2, f2, rfl, _, _, _, _, _, _, _, _⟩ := s2.form
 have l3 := hx.size
 go_upto_region 2 with (fail)
 generalize hwn : World.alloc w2 _ = w3
 have he : Ext w2 w3 := by rw [← hwn]; exact ext_alloc _ _
 have b4 : Box w3 w2.heap.size 30 #[.slice A2 n2 c2, .slice E2 m2 e2, .slice F2 k2 f2, .int .i64 sNew.next] := by rw [← hwn]; exact Box.new _ _ _ (by simp)
 clear hwn
 have hx := ext_trans hx he
 have s2 := s2.ext he
 clear he
 obtain ⟨g4, hg4⟩ : ∃ g, g = w2.heap.size := ⟨_, rfl⟩
 rw [← hg4] at b4 l3 ⊢
 clear hg4
 go_upto_region 3 with (fail)
 go_loopw [14] (fun i wr => ∃ a : Nat, a ≤ n ∧ i = .int .i64 a ∧ (∃ A n c E m e F k f y, Hid (yWalkTo sNew l = a + yWalkTo y (l.drop a)) ∧ Hid (tGood y) ∧ Box wr g4 30 #[.slice A n c, .slice E m e, .slice F k f, .int .i64 y.next] ∧ StoV tS wr 0 (.agg #[.slice A n c, .slice E m e, .slice F k f, .int .i64 y.next]) y) ∧ Ext w wr) (fun i _ => n - (intOf i).toNat)
 case atStart => exact ⟨0, by omega, rfl, ⟨_, _, _, _, _, _, _, _, _, _, Lib.hid (by rw [List.drop_zero]; omega), Lib.hid new_tight, b4, s2⟩, hx⟩
 case round =>
  clear hx b4 s2
  obtain ⟨a, ha, rfl, ⟨A3, n3, c3, E3, m3, e3, F3, k3, f3, y, HY, HG, b4, s3⟩, hx⟩ := hrel
  have hz := hx.size
  have l4z := b4.lt
  by_cases hlt : a < n
  ·have i0 : (0 : Int) ≤ (a : Int) := by omega
   have i1 : (a : Int) < (n : Int) := by omega
   have hal : a < l.length := HN.out ▸ hlt
   obtain ⟨g1, o1, u1, rfl, hg1, hu1, f1⟩ := hl.stp_x hlt
   have HST := Lib.hid (walk_step (s := y) hal)
   generalize l.getD a eStp.d = x at f1 hu1 HST
   obtain ⟨AX, nx, cx, rfl, _, _⟩ := hu1.form
   obtain ⟨x0, x1, x2, x3, x4, x5, x6⟩ := f1 _ hx
   have hu1 := hu1.ext hx
   clear f1 hg1 hal
   go_upto_region 5 with (fail)
   generalize hwn : World.alloc wr _ = w4
   have he : Ext wr w4 := by rw [← hwn]; exact ext_alloc _ _
   have b6 : Box w4 wr.heap.size 39 #[.int .i64 x.kind, .int .i64 x.n, .int .i64 x.m, .int .i64 x.deed.kind, .int .i64 x.deed.key, .int .i64 x.deed.n, .slice AX nx cx] := by rw [← hwn]; exact Box.new _ _ _ (by simp)
   clear hwn x0 x1 x2 x3 x4 x5 x6
   have hx := ext_trans hx he
   have s3 := s3.ext he
   have b4 := b4.ext he
   have hu1 := hu1.ext he
   clear he
   obtain ⟨g6, hg6⟩ : ∃ g, g = wr.heap.size := ⟨_, rfl⟩
   rw [← hg6] at b6 l4z ⊢
   clear hg6
   obtain ⟨b4_0, b4_1, b4_2, b4_3⟩ := b4.c4
   have b4_z := b4.free
   have b4_l := b4.lt
   obtain ⟨b6_0, b6_1, b6_2, b6_3, b6_4, b6_5, b6_6⟩ := b6.c7
   have b6_z := b6.free
   have b6_l := b6.lt
   go_wp2_with fail
   refine (mayGentle_v s3 HG.out.good ⟨_, rfl, hu1⟩).mono ?_
   rintro e5 w5 ⟨rfl, he⟩
   try clear b4_0 b4_1 b4_2 b4_3 b4_z b4_l b6_0 b6_1 b6_2 b6_3 b6_4 b6_5 b6_6 b6_z b6_l
   have hx := ext_trans hx he
   have s3 := s3.ext he
   have hu1 := hu1.ext he
   have b4 := b4.ext he
   have b6 := b6.ext he
   clear he
   cases hgt : gentle y x with
   | false =>
    have HFIN : Hid (yWalkTo sNew l = a) := Lib.hid (by rw [HY.out, HST.out, if_neg (by rw [hgt]; simp)]; omega)
    clear hgt HY HST
    go_wp2_with fail
    go_ret2
    exact ⟨by rw [HFIN.out]; rfl, hx⟩
   | true =>
    have HY2 : Hid (yWalkTo sNew l = a + 1 + yWalkTo (yDo y x).1 (l.drop (a + 1))) := Lib.hid (by rw [HY.out, HST.out, if_pos hgt]; omega)
    have HMW := Lib.hid (may_walk HG.out hgt)
    have HG2 := Lib.hid (step_tight HG.out hgt).1
    clear hgt HY HST
    obtain ⟨b4_0, b4_1, b4_2, b4_3⟩ := b4.c4
    have b4_z := b4.free
    have b4_l := b4.lt
    obtain ⟨b6_0, b6_1, b6_2, b6_3, b6_4, b6_5, b6_6⟩ := b6.c7
    have b6_z := b6.free
    have b6_l := b6.lt
    go_wp2_with fail
    refine (playDo_v (x := x) (s := y) s3 HG.out.good ⟨_, rfl, hu1⟩).mono ?_
    rintro e6 w6 ⟨v6, rfl, s6, he⟩
    try clear b4_0 b4_1 b4_2 b4_3 b4_z b4_l b6_0 b6_1 b6_2 b6_3 b6_4 b6_5 b6_6 b6_z b6_l
    have hx := ext_trans hx he
    have s3 := s3.ext he
    have hu1 := hu1.ext he
    have b4 := b4.ext he
    have b6 := b6.ext he
    clear he
    generalize (yDo y x).1 = z at s6 HY2 HMW HG2
    generalize (yDo y x).2.1 = nn
    generalize (yDo y x).2.2 = qq
    obtain ⟨A6, n6, c6, E6, m6, e6, F6, k6, f6, rfl, _, _, _, _, _, _, _, _⟩ := s6.form
    go_upto_region 8 with (fail)
    generalize hwn : World.alloc w6 _ = w7
    have he : Ext w6 w7 := by rw [← hwn]; exact ext_alloc _ _
    have b7 : Box w7 w6.heap.size 30 #[.slice A6 n6 c6, .slice E6 m6 e6, .slice F6 k6 f6, .int .i64 z.next] := by rw [← hwn]; exact Box.new _ _ _ (by simp)
    clear hwn
    have l7 := b6.lt
    have hx := ext_trans hx he
    have s3 := s3.ext he
    have s6 := s6.ext he
    have hu1 := hu1.ext he
    have b4 := b4.ext he
    have b6 := b6.ext he
    clear he
    obtain ⟨g7, hg7⟩ : ∃ g, g = w6.heap.size := ⟨_, rfl⟩
    rw [← hg7] at b7 l7 ⊢
    clear hg7
    obtain ⟨b7_0, b7_1, b7_2, b7_3⟩ := b7.c4
    have b7_z := b7.free
    have b7_l := b7.lt
    go_wp2_with fail
    refine (stoRecs_v s6 HG2.out.good.fine.len HG2.out.good.fine.small).mono ?_
    rintro e8 w8 ⟨v8, rfl, o8, he⟩
    try clear b7_0 b7_1 b7_2 b7_3 b7_z b7_l
    have hx := ext_trans hx he
    have s3 := s3.ext he
    have s6 := s6.ext he
    have hu1 := hu1.ext he
    have b4 := b4.ext he
    have b6 := b6.ext he
    have b7 := b7.ext he
    clear he
    have r8 := (o8.row (T := [54]) (base' := 0) (by decide) (Nat.le_refl _)).all (T' := [])
    clear o8
    obtain ⟨A8, n8, c8, rfl, _, _, _⟩ := r8.form
    go_upto_region 9 with (fail)
    generalize hwn : World.alloc w8 _ = w9
    have he : Ext w8 w9 := by rw [← hwn]; exact ext_alloc _ _
    have b10 : Box w9 w8.heap.size 46 #[.slice A8 n8 c8] := by rw [← hwn]; exact Box.new _ _ _ (by simp)
    clear hwn
    have hx := ext_trans hx he
    have s3 := s3.ext he
    have s6 := s6.ext he
    have hu1 := hu1.ext he
    have b4 := b4.ext he
    have b6 := b6.ext he
    have b7 := b7.ext he
    have r8 := r8.ext he
    clear he
    obtain ⟨g10, hg10⟩ : ∃ g, g = w8.heap.size := ⟨_, rfl⟩
    rw [← hg10] at b10 ⊢
    clear hg10
    have he : Ext w9 w9.drew := (Below.refl _ _).drew
    have hx := ext_trans hx he
    have s3 := s3.ext he
    have s6 := s6.ext he
    have hu1 := hu1.ext he
    have b4 := b4.ext he
    have b6 := b6.ext he
    have b7 := b7.ext he
    have b10 := b10.ext he
    have r8 := r8.ext he
    clear he
    refine wp_region_ext 7 [0, 2, 4, 6] false rfl (by kernel_rfl) (by kernel_rfl) ?_
    generalize w9.drew = D at hx s3 s6 hu1 b4 b6 b7 b10 r8 ⊢
    apply mixF 0 (by kernel_rfl) (by rfl) (by rfl)
    ·(intro w' hx; obtain ⟨x0, x1, x2, x3⟩ := (b4.ext hx).c4; obtain ⟨y0, y1, y2, y3, y4, y5, y6⟩ := (b6.ext hx).c7; go_simp <;> with_reducible rfl)
    simp only [pA, pB, pC, pD]
    apply mixF 2 (by kernel_rfl) (by rfl) (by rfl)
    ·(intro w' hx; obtain ⟨x0, x1, x2, x3⟩ := (b4.ext hx).c4; obtain ⟨y0, y1, y2, y3, y4, y5, y6⟩ := (b6.ext hx).c7; go_simp <;> with_reducible rfl)
    simp only [pA, pB, pC, pD]
    apply mixF 4 (by kernel_rfl) (by rfl) (by rfl)
    ·(intro w' hx; go_simp <;> with_reducible rfl)
    simp only [pA, pB, pC, pD]
    refine mixS 1 (by kernel_rfl) (by kernel_rfl) (by rfl) (by rfl) (fun K hK => ?_)
    go_wp2_with (go_at_call 12; refine (stoRecs_v s3 HG.out.good.fine.len HG.out.good.fine.small).mono ?_; rintro e w11 ⟨v11, rfl, o11, he⟩)
    refine hK.out _ _ (he) ?_
    clear hK K
    try simp only [pA, pB, pC, pD]
    have r11 := o11.row (T := [54]) (base' := 0) (by decide) (Nat.le_refl _)
    clear o11
    have hx := ext_trans hx he
    have s6 := s6.ext he
    have hu1 := hu1.ext he
    have b4 := b4.ext he
    have b7 := b7.ext he
    have b10 := b10.ext he
    have r8 := r8.ext he
    clear he s3 b6
    refine mixS 3 (by kernel_rfl) (by kernel_rfl) (by rfl) (by rfl) (fun K hK => ?_)
    go_wp2_with (go_at_call 30; refine (mayLists_v r11 (sRecs_right HG.out.good.right) (by have := HG.out.good.fine.len; unfold sRecs; rw [List.length_map]; omega) ⟨_, rfl, hu1⟩).mono ?_; rintro e w12 ⟨v12, rfl, R12, he⟩)
    refine hK.out _ _ (he) ?_
    clear hK K
    try simp only [pA, pB, pC, pD]
    have hx := ext_trans hx he
    have s6 := s6.ext he
    have b4 := b4.ext he
    have b7 := b7.ext he
    have b10 := b10.ext he
    have r8 := r8.ext he
    clear he r11 hu1
    have HWH := Lib.hid (walkHit b10 (r8.all))
    clear r8
    refine mixS 5 (by kernel_rfl) (by kernel_rfl) (by rfl) (by rfl) (fun K hK => ?_)
    go_wp2_with (go_at_call 29; refine (lsHas_v EG.out R12 HWH.out).mono ?_; rintro e w13 ⟨rfl, he⟩)
    refine hK.out _ _ (he) ?_
    clear hK K
    try simp only [pA, pB, pC, pD]
    rw [HMW.out]
    have hx := ext_trans hx he
    have s6 := s6.ext he
    have b4 := b4.ext he
    have b7 := b7.ext he
    clear he R12 b10
    apply mixF 6 (by kernel_rfl) (by rfl) (by rfl)
    ·(intro w' hx; go_simp <;> with_reducible rfl)
    simp only [pA, pB, pC, pD]
    refine mixEnd (by kernel_rfl) ?_
    have kb := b4.kd
    obtain ⟨b4_0, b4_1, b4_2, b4_3⟩ := b4.c4
    have b4_z := b4.free
    have b4_l := b4.lt
    obtain ⟨b7_0, b7_1, b7_2, b7_3⟩ := b7.c4
    have b7_z := b7.free
    have b7_l := b7.lt
    go_upto_region 12 with (fail)
    try clear b4_0 b4_1 b4_2 b4_3 b4_z b4_l b7_0 b7_1 b7_2 b7_3 b7_z b7_l
    generalize hwn : World.setCell (World.setCell (World.setCell (World.setCell w13 _ _) _ _) _ _) _ _ = w14
    have s6 := s6.kept (w' := w14) (by rw [← hwn]; (repeat (with_reducible (first | assumption | exact Kept.refl _ _ _ | (apply Kept.setK; rotate_left; (repeat (first | assumption | apply Kd.set | apply Kd.alloc | apply Kd.drew)); decide; omega) | refine Kept.allocK ?_ _ | refine Kept.drewK ?_))))
    have hx : Ext w w14 := by rw [← hwn]; (repeat (with_reducible (first | assumption | exact Below.refl _ _ | refine Below.setCell ?_ (by simp <;> omega) _ | refine Below.alloc ?_ (by simp <;> omega) _ | refine Below.drew ?_ | refine below_drewN ?_ _)))
    have b4 : Box w14 g4 30 #[.slice A6 n6 c6, .slice E6 m6 e6, .slice F6 k6 f6, .int .i64 z.next] := by rw [← hwn]; exact (((b4.set 0 _).set 1 _).set 2 _).set 3 _
    clear hwn kb b7
    go_wp2_with fail
    refine ⟨⟨a + 1, by omega, rfl, ⟨_, _, _, _, _, _, _, _, _, _, Lib.hid (by rw [HY2.out]), HG2, b4, s6⟩, hx⟩, ?_⟩
    simp only [intOf]
    omega
  ·obtain rfl : a = n := by omega
   have HFIN : Hid (yWalkTo sNew l = a) := Lib.hid (by rw [HY.out, HN.out, List.drop_length]; show l.length + 0 = _; omega)
   clear HY
   go_wp2_with fail
   go_ret2
   exact ⟨by rw [HFIN.out]; rfl, hx⟩
end Go.Proofs.YtdmnmfnmaccmoaaGreatDoor
