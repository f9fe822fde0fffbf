/- Walks: store.Begin. -/
import Derived.Test.YtdmnmfnmaccmoaaGreatDoorSt1
import Derived.Test.YtdmnmfnmaccmoaaGreatDoorSc1
import Derived.Test.YtdmnmfnmaccmoaaGreatDoorIxA
namespace Go.Proofs.YtdmnmfnmaccmoaaGreatDoor
open Go Go.RowKit
theorem begin_purge {s : Sto} {d : Ded} (h : mWrong d = 0) (h2 : (mDo (sRecs s) d).2.2 = 0) (hk : d.kind = 3) :
  sBegin s d = (⟨(pPut s.disk ((iFind s.index d.key d.n).getD eZero).pair rFree).1, iDrop s.index ((iFind s.index d.key d.n).getD eZero).pair, s.next⟩, (mDo (sRecs s) d).2.1, 0) := by
 unfold sBegin
 rw [if_neg (by simpa using h), if_neg (by simpa using h2), if_pos hk]
theorem begin_room {s : Sto} {d : Ded} (h2 : (mDo (sRecs s) d).2.2 = 0) (hk : d.kind ≠ 3) : ∀ e ∈ s.index, e.pair ≠ iFree s.index 6 := by
 obtain ⟨a, _, _⟩ := mDo_made hk h2
 exact (free_found (l := s.index) 6 (by simpa [sRecs] using a)).2.2
theorem ins_of {l m : List Ent} {e : Ent} (h : iRight l) (hp : m.Perm (l ++ [e])) (hs : m.Pairwise fun a b => ¬ eLt b a) (hno : ∀ x ∈ l, x.pair ≠ e.pair) : m = iIns l e := by
 have hpp : (l ++ [e]).Pairwise fun a b => a.pair ≠ b.pair := by
  rw [List.pairwise_append]
  exact ⟨h.2.2, List.pairwise_singleton _ _, fun a ha b hb => by rw [List.mem_singleton.1 hb]; exact hno a ha⟩
 exact ins_unique hp h.2.1 hno (sorted_strict hs (perm_pairs hp hpp))
set_option maxRecDepth 100000 in
set_option maxHeartbeats 4000000 in
theorem stoBegin_v {T : List TypeId} {base base' : Nat} {v dv : Value} {s : Sto} {d : Ded} {w : World} (h : StoV T w base v s) (g : sGood s) (hd : DedV w base' dv d) :
  Calls Tryz.prog 18 #[v, dv] w fun e w' => ∃ v', e = .returned (.tuple #[v', .int .i64 (sBegin s d).2.1, .int .i64 (sBegin s d).2.2]) ∧ StoV tS w' 0 v' (sBegin s d).1 ∧ Ext w w' := by
 obtain ⟨A, n, c, E, m, e, F, k, f, rfl, hdk, hi, HN, _, _, _, _, _⟩ := h.form
 obtain ⟨A0, n0, c0, rfl, _, _⟩ := hd.at_
 have HG := Lib.hid g
 have HF := Lib.hid g.fine
 have HFD := Lib.hid (good_fine g.disk)
 obtain rfl : n = 12 := HN.out.trans g.disk.len
 clear g HN
 go_enter Tryz.func18, Tryz.ntmps18
 go_upto_region 1 with (fail)
 generalize hwn : World.alloc (World.alloc (World.alloc w _) _) _ = w1
 have hx : Ext w w1 := by rw [← hwn]; (repeat (with_reducible (first | assumption | exact Below.refl _ _ | refine Below.setCell ?_ (by simp <;> omega) _ | refine Below.alloc ?_ (by simp <;> omega) _ | refine Below.drew ?_ | refine below_drewN ?_ _)))
 have b2 : Box w1 w.heap.size 30 #[.slice A 12 c, .slice E m e, .slice F k f, .int .i64 s.next] := by rw [← hwn]; exact ((Box.new _ _ _ rfl).alloc _).alloc _
 have b3 : Box w1 (w.heap.size + 1) 34 #[.int .i64 d.kind, .int .i64 d.key, .int .i64 d.n, .slice A0 n0 c0] := by rw [← hwn]; exact (Box.new _ _ _ (by simp)).alloc _
 have b4 : Box w1 (w.heap.size + 2) 30 #[.slice none 0 0, .slice none 0 0, .slice none 0 0, .int .i64 0] := by rw [← hwn]; exact Box.new _ _ _ (by simp)
 clear hwn
 obtain ⟨g4, hg4⟩ : ∃ g, g = w.heap.size + 2 := ⟨_, rfl⟩
 obtain ⟨g3, hg3⟩ : ∃ g, g = w.heap.size + 1 := ⟨_, rfl⟩
 obtain ⟨g2, hg2⟩ : ∃ g, g = w.heap.size := ⟨_, rfl⟩
 rw [← hg4] at b4 ⊢
 rw [← hg3] at b3 ⊢
 rw [← hg2]
 rw [show Box w1 w.heap.size 30 #[.slice A 12 c, .slice E m e, .slice F k f, .int .i64 s.next] ↔ Box w1 g2 30 #[.slice A 12 c, .slice E m e, .slice F k f, .int .i64 s.next] by rw [hg2]] at b2
 have l2 : w.heap.size ≤ g2 := by omega
 have l3 : g2 < g3 := by omega
 have l4 : g3 < g4 := by omega
 clear hg2 hg3 hg4
 have h := h.ext hx
 have hd := hd.ext hx
 have hdk := hdk.ext hx
 have hi := hi.ext hx
 obtain ⟨b3_0, b3_1, b3_2, b3_3⟩ := b3.c4
 have b3_z := b3.free
 have b3_l := b3.lt
 go_wp2_with fail
 refine (mWrong_v hd).mono ?_
 rintro e1 w2 ⟨rfl, he⟩
 try clear b3_0 b3_1 b3_2 b3_3 b3_z b3_l
 have hx := ext_trans hx he
 have h := h.ext he
 have hd := hd.ext he
 have hdk := hdk.ext he
 have hi := hi.ext he
 have b2 := b2.ext he
 have b3 := b3.ext he
 have b4 := b4.ext he
 clear he
 by_cases hw : mWrong d = 0
 ·have HW := Lib.hid hw
  have q : (mWrong d != 0) = false := by simpa using hw
  clear hw
  go_upto_region 4 with (fail)
  clear q
  have he : Ext w2 w2.drew := (Below.refl _ _).drew
  have hx := ext_trans hx he
  have h := h.ext he
  have hd := hd.ext he
  have hdk := hdk.ext he
  have hi := hi.ext he
  have b2 := b2.ext he
  have b3 := b3.ext he
  have b4 := b4.ext he
  clear he
  refine wp_region_ext 11 [0, 2, 4, 5, 6, 7, 8, 9, 10] false rfl (by kernel_rfl) (by kernel_rfl) ?_
  generalize w2.drew = D at hx h hd hdk hi b2 b3 b4 ⊢
  apply mixF 0 (by kernel_rfl) (by rfl) (by rfl)
  ·(intro w' hx; obtain ⟨x0, x1, x2, x3⟩ := (b2.ext hx).c4; obtain ⟨y0, y1, y2, y3⟩ := (b3.ext hx).c4; go_simp <;> with_reducible rfl)
  simp only [pA, pB, pC, pD]
  apply mixF 2 (by kernel_rfl) (by rfl) (by rfl)
  ·(intro w' hx; obtain ⟨x0, x1, x2, x3⟩ := (b2.ext hx).c4; obtain ⟨y0, y1, y2, y3⟩ := (b3.ext hx).c4; go_simp <;> with_reducible rfl)
  simp only [pA, pB, pC, pD]
  refine mixS 1 (by kernel_rfl) (by kernel_rfl) (by rfl) (by rfl) (fun K hK => ?_)
  go_wp2_with (go_at_call 12; refine (stoRecs_v h HF.out.len HF.out.small).mono ?_; rintro e w5 ⟨v5, rfl, o5, he⟩)
  refine hK.out _ _ (he) ?_
  clear hK K
  try simp only [pA, pB, pC, pD]
  have r5 := o5.row (T := [54]) (base' := 0) (by decide) (Nat.le_refl _)
  clear o5
  have hx := ext_trans hx he
  have h := h.ext he
  have hd := hd.ext he
  have hdk := hdk.ext he
  have hi := hi.ext he
  have b2 := b2.ext he
  have b3 := b3.ext he
  have b4 := b4.ext he
  clear he
  refine mixS 3 (by kernel_rfl) (by kernel_rfl) (by rfl) (by rfl) (fun K hK => ?_)
  go_wp2_with (go_at_call 38; refine (mDo_d r5 (sRecs_right HG.out.right) (by have := HF.out.len; unfold sRecs; rw [List.length_map]; omega) (Nat.zero_le _) hd HW.out).mono ?_; rintro e w6 ⟨v6, m6, q6, rfl, HM6, HQ6, _, he⟩)
  refine hK.out _ _ (he) ?_
  clear hK K
  try simp only [pA, pB, pC, pD]
  have hx := ext_trans hx he
  have h := h.ext he
  have hd := hd.ext he
  have hdk := hdk.ext he
  have hi := hi.ext he
  have b2 := b2.ext he
  have b3 := b3.ext he
  have b4 := b4.ext he
  clear he r5
  apply mixF 4 (by kernel_rfl) (by rfl) (by rfl)
  ·(intro w' hx; go_simp <;> with_reducible rfl)
  simp only [pA, pB, pC, pD]
  apply mixF 5 (by kernel_rfl) (by rfl) (by rfl)
  ·(intro w' hx; go_simp <;> with_reducible rfl)
  simp only [pA, pB, pC, pD]
  apply mixF 6 (by kernel_rfl) (by rfl) (by rfl)
  ·(intro w' hx; go_simp <;> with_reducible rfl)
  simp only [pA, pB, pC, pD]
  apply mixF 7 (by kernel_rfl) (by rfl) (by rfl)
  ·(intro w' hx; go_simp <;> with_reducible rfl)
  simp only [pA, pB, pC, pD]
  apply mixF 8 (by kernel_rfl) (by rfl) (by rfl)
  ·(intro w' hx; go_simp <;> with_reducible rfl)
  simp only [pA, pB, pC, pD]
  apply mixF 9 (by kernel_rfl) (by rfl) (by rfl)
  ·(intro w' hx; go_simp <;> with_reducible rfl)
  simp only [pA, pB, pC, pD]
  apply mixF 10 (by kernel_rfl) (by rfl) (by rfl)
  ·(intro w' hx; go_simp <;> with_reducible rfl)
  simp only [pA, pB, pC, pD]
  refine mixEnd (by kernel_rfl) ?_
  by_cases hq : q6 = 0
  ·obtain rfl := hq
   have HQ6 := Lib.hid HQ6.out.symm
   obtain ⟨b2_0, b2_1, b2_2, b2_3⟩ := b2.c4
   have b2_z := b2.free
   have b2_l := b2.lt
   go_wp2_with fail
   refine (stoOwn_v h HF.out).mono ?_
   rintro e7 w7 ⟨v7, rfl, s7, he⟩
   try clear b2_0 b2_1 b2_2 b2_3 b2_z b2_l
   have hx := ext_trans hx he
   have hd := hd.ext he
   have hdk := hdk.ext he
   have hi := hi.ext he
   have b2 := b2.ext he
   have b3 := b3.ext he
   have b4 := b4.ext he
   clear he
   clear h
   obtain ⟨A7, n7, c7, E7, m7, e7, F7, k7, f7, rfl, _, _, _, _, _, _, _, _⟩ := s7.form
   clear s7
   go_upto_region 8 with (fail)
   generalize hwn : World.alloc w7 _ = w8
   have hx7 : Ext w7 w8 := by rw [← hwn]; exact ext_alloc _ _
   have b11 : Box w8 w7.heap.size 30 #[.slice A7 n7 c7, .slice E7 m7 e7, .slice F7 k7 f7, .int .i64 s.next] := by rw [← hwn]; exact Box.new _ _ _ (by simp)
   clear hwn
   have l11 := b4.lt
   have hx := ext_trans hx hx7
   have b2 := b2.ext hx7
   have b3 := b3.ext hx7
   have b4 := b4.ext hx7
   obtain ⟨g11, hg11⟩ : ∃ g, g = w7.heap.size := ⟨_, rfl⟩
   have z11 : w7.heap.size ≤ g11 := by omega
   rw [← hg11] at b11 l11 ⊢
   clear hg11
   by_cases hk3 : d.kind = 3
   ·have HB := Lib.hid (begin_purge (s := s) HW.out HQ6.out hk3)
    have q1 : (d.kind == 3) = true := by simpa using hk3
    clear hk3
    obtain ⟨b2_0, b2_1, b2_2, b2_3⟩ := b2.c4
    have b2_z := b2.free
    have b2_l := b2.lt
    obtain ⟨b3_0, b3_1, b3_2, b3_3⟩ := b3.c4
    have b3_z := b3.free
    have b3_l := b3.lt
    go_wp2_with fail
    refine (ixFind_v (hi.ext hx7) HF.out.small).mono ?_
    rintro e9 w9 ⟨v9, bb, rfl, ⟨hb0, hev⟩, he⟩
    try clear b2_0 b2_1 b2_2 b2_3 b2_z b2_l b3_0 b3_1 b3_2 b3_3 b3_z b3_l
    have hx := ext_trans hx he
    have hx7 := ext_trans hx7 he
    have b2 := b2.ext he
    have b3 := b3.ext he
    have b4 := b4.ext he
    have b11 := b11.ext he
    clear he
    clear hb0 q1 b3
    have hev : EntV w9 0 v9 ((iFind s.index d.key d.n).getD eZero) := hev
    generalize (iFind s.index d.key d.n).getD eZero = x at hev HB
    obtain ⟨AX, nx, cx, rfl, _, _⟩ := hev.at_
    clear hev
    go_upto_region 10 with (fail)
    generalize hwn : World.alloc w9 _ = w10
    have he : Ext w9 w10 := by rw [← hwn]; exact ext_alloc _ _
    have b12 : Box w10 w9.heap.size 78 (cE x (.slice AX nx cx)) := by rw [← hwn]; exact Box.new _ _ _ (by simp)
    clear hwn
    have l12 := b11.lt
    have hx := ext_trans hx he
    have hx7 := ext_trans hx7 he
    have b2 := b2.ext he
    have b4 := b4.ext he
    have b11 := b11.ext he
    clear he
    obtain ⟨g12, hg12⟩ : ∃ g, g = w9.heap.size := ⟨_, rfl⟩
    rw [← hg12] at b12 l12 ⊢
    clear hg12
    obtain ⟨b2_0, b2_1, b2_2, b2_3⟩ := b2.c4
    have b2_z := b2.free
    have b2_l := b2.lt
    obtain ⟨b12_0, b12_1, b12_2, b12_3, b12_4⟩ := b12.c5
    have b12_z := b12.free
    have b12_l := b12.lt
    go_wp2_with fail
    refine (pPut_v (p := x.pair) (r := rFree) (hdk.ext hx7) HFD.out.ok (by have := HFD.out.late; omega) (RecV.free _ 0)).mono ?_
    rintro e11 w11 ⟨v11, q11, rfl, hq11, d11, he⟩
    try clear b2_0 b2_1 b2_2 b2_3 b2_z b2_l b12_0 b12_1 b12_2 b12_3 b12_4 b12_z b12_l
    have hx := ext_trans hx he
    have hx7 := ext_trans hx7 he
    have b2 := b2.ext he
    have b4 := b4.ext he
    have b11 := b11.ext he
    have b12 := b12.ext he
    clear he
    clear hq11
    have d11 := d11.sub tDS (Nat.le_refl _)
    obtain ⟨A11, n11, c11, E11, m11, e11, rfl, _, _, _, _, _, _⟩ := d11.form
    have k11 := b11.kd
    obtain ⟨b11_0, b11_1, b11_2, b11_3⟩ := b11.c4
    have b11_z := b11.free
    have b11_l := b11.lt
    go_upto_region 11 with (fail)
    try clear b11_0 b11_1 b11_2 b11_3 b11_z b11_l
    generalize hwn : World.setCell (World.setCell w11 _ _) _ _ = w12
    have b2 : Box w12 g2 30 #[.slice A 12 c, .slice E m e, .slice F k f, .int .i64 s.next] := by rw [← hwn]; (repeat (with_reducible (first | assumption | refine Box.alloc ?_ _ | refine Box.setOther ?_ (by simp <;> omega) _)))
    have b4 : Box w12 g4 30 #[.slice none 0 0, .slice none 0 0, .slice none 0 0, .int .i64 0] := by rw [← hwn]; (repeat (with_reducible (first | assumption | refine Box.alloc ?_ _ | refine Box.setOther ?_ (by simp <;> omega) _)))
    have d11 := d11.kept (w' := w12) (T := tS) (base := 0) (by rw [← hwn]; (repeat (with_reducible (first | assumption | exact Kept.refl _ _ _ | (apply Kept.setK; rotate_left; (repeat (first | assumption | apply Kd.set | apply Kd.alloc | apply Kd.drew)); decide; omega) | refine Kept.allocK ?_ _ | refine Kept.drewK ?_))))
    have hx : Ext w w12 := by rw [← hwn]; (repeat (with_reducible (first | assumption | exact Below.refl _ _ | refine Below.setCell ?_ (by simp <;> omega) _ | refine Below.alloc ?_ (by simp <;> omega) _ | refine Below.drew ?_ | refine below_drewN ?_ _)))
    have hx7 : Ext w7 w12 := by rw [← hwn]; (repeat (with_reducible (first | assumption | exact Below.refl _ _ | refine Below.setCell ?_ (by simp <;> omega) _ | refine Below.alloc ?_ (by simp <;> omega) _ | refine Below.drew ?_ | refine below_drewN ?_ _)))
    have b12 : Box w12 g12 78 (cE x (.slice AX nx cx)) := by rw [← hwn]; (repeat (with_reducible (first | assumption | refine Box.alloc ?_ _ | refine Box.setOther ?_ (by simp <;> omega) _)))
    have b11 : Box w12 g11 30 #[.slice A11 n11 c11, .slice E11 m11 e11, .slice F7 k7 f7, .int .i64 s.next] := by rw [← hwn]; exact (b11.set 0 _).set 1 _
    clear hwn k11
    obtain ⟨b2_0, b2_1, b2_2, b2_3⟩ := b2.c4
    have b2_z := b2.free
    have b2_l := b2.lt
    obtain ⟨b12_0, b12_1, b12_2, b12_3, b12_4⟩ := b12.c5
    have b12_z := b12.free
    have b12_l := b12.lt
    go_wp2_with fail
    refine (ixDrop_v (p := x.pair) (hi.ext hx7) HF.out.len HF.out.small).mono ?_
    rintro e13 w13 ⟨v13, rfl, o13, he⟩
    try clear b2_0 b2_1 b2_2 b2_3 b2_z b2_l b12_0 b12_1 b12_2 b12_3 b12_4 b12_z b12_l
    have hx := ext_trans hx he
    have d11 := d11.ext he
    have b2 := b2.ext he
    have b4 := b4.ext he
    have b11 := b11.ext he
    have b12 := b12.ext he
    clear he
    have r13 := o13.row (T := tS) (base := 0) (base' := 0) (by decide) (Nat.le_refl _)
    clear o13
    obtain ⟨A13, n13, c13, rfl, _, _, _⟩ := r13.form
    have k11 := b11.kd
    obtain ⟨b11_0, b11_1, b11_2, b11_3⟩ := b11.c4
    have b11_z := b11.free
    have b11_l := b11.lt
    go_upto_region 12 with (fail)
    try clear b11_0 b11_1 b11_2 b11_3 b11_z b11_l
    generalize hwn : World.setCell w13 _ _ = w14
    have b4 : Box w14 g4 30 #[.slice none 0 0, .slice none 0 0, .slice none 0 0, .int .i64 0] := by rw [← hwn]; (repeat (with_reducible (first | assumption | refine Box.alloc ?_ _ | refine Box.setOther ?_ (by simp <;> omega) _)))
    have d11 := d11.kept (w' := w14) (T := tS) (base := 0) (by rw [← hwn]; (repeat (with_reducible (first | assumption | exact Kept.refl _ _ _ | (apply Kept.setK; rotate_left; (repeat (first | assumption | apply Kd.set | apply Kd.alloc | apply Kd.drew)); decide; omega) | refine Kept.allocK ?_ _ | refine Kept.drewK ?_))))
    have r13 := r13.kept (w' := w14) (T := tS) (base := 0) (by rw [← hwn]; (repeat (with_reducible (first | assumption | exact Kept.refl _ _ _ | (apply Kept.setK; rotate_left; (repeat (first | assumption | apply Kd.set | apply Kd.alloc | apply Kd.drew)); decide; omega) | refine Kept.allocK ?_ _ | refine Kept.drewK ?_))))
    have hx : Ext w w14 := by rw [← hwn]; (repeat (with_reducible (first | assumption | exact Below.refl _ _ | refine Below.setCell ?_ (by simp <;> omega) _ | refine Below.alloc ?_ (by simp <;> omega) _ | refine Below.drew ?_ | refine below_drewN ?_ _)))
    have b11 : Box w14 g11 30 #[.slice A11 n11 c11, .slice E11 m11 e11, .slice A13 n13 c13, .int .i64 s.next] := by rw [← hwn]; exact b11.set 2 _
    clear hwn k11
    have k4 := b4.kd
    obtain ⟨b11_0, b11_1, b11_2, b11_3⟩ := b11.c4
    have b11_z := b11.free
    have b11_l := b11.lt
    obtain ⟨b4_0, b4_1, b4_2, b4_3⟩ := b4.c4
    have b4_z := b4.free
    have b4_l := b4.lt
    go_wp2_with fail
    ((try simp only [Exit.inBlock, Exit.then]); refine bodyPost_ret (v := ?_) ?resultOf rfl ?_; case resultOf => (rw [results_ctt rfl]; go_simp; rfl))
    try clear b11_0 b11_1 b11_2 b11_3 b11_z b11_l b4_0 b4_1 b4_2 b4_3 b4_z b4_l
    rw [HB.out, HM6.out]
    exact ⟨_, rfl, StoV.mk (d11.kept (by (repeat (with_reducible (first | assumption | exact Kept.refl _ _ _ | (apply Kept.setK; rotate_left; (repeat (first | assumption | apply Kd.set | apply Kd.alloc | apply Kd.drew)); decide; omega) | refine Kept.allocK ?_ _ | refine Kept.drewK ?_))))) (r13.kept (by (repeat (with_reducible (first | assumption | exact Kept.refl _ _ _ | (apply Kept.setK; rotate_left; (repeat (first | assumption | apply Kd.set | apply Kd.alloc | apply Kd.drew)); decide; omega) | refine Kept.allocK ?_ _ | refine Kept.drewK ?_))))) rfl, by (repeat (with_reducible (first | assumption | exact Below.refl _ _ | refine Below.setCell ?_ (by simp <;> omega) _ | refine Below.alloc ?_ (by simp <;> omega) _ | refine Below.drew ?_ | refine below_drewN ?_ _)))⟩
   ·have HB := begin_make HG.out HW.out HQ6.out hk3
    rw [← HM6.out] at HB
    have HNO := Lib.hid (begin_room HQ6.out hk3)
    have HK3 := Lib.hid hk3
    have hp0 := HB.2.1
    have hp0 : decide (iFree s.index 6 < 0) = false := by simpa using hp0
    have HB := Lib.hid HB.1
    have q1 : (d.kind == 3) = false := by simpa using hk3
    clear hk3
    obtain ⟨b2_0, b2_1, b2_2, b2_3⟩ := b2.c4
    have b2_z := b2.free
    have b2_l := b2.lt
    obtain ⟨b3_0, b3_1, b3_2, b3_3⟩ := b3.c4
    have b3_z := b3.free
    have b3_l := b3.lt
    go_wp2_with fail
    refine (ixFree_v (p := 6) (hi.ext hx7) (by omega)).mono ?_
    rintro e9 w9 ⟨rfl, he⟩
    try clear b2_0 b2_1 b2_2 b2_3 b2_z b2_l b3_0 b3_1 b3_2 b3_3 b3_z b3_l
    have hx := ext_trans hx he
    have hx7 := ext_trans hx7 he
    have b2 := b2.ext he
    have b3 := b3.ext he
    have b4 := b4.ext he
    have b11 := b11.ext he
    clear he
    clear q1
    generalize iFree s.index 6 = p at HB HNO hp0 ⊢
    obtain ⟨b3_0, b3_1, b3_2, b3_3⟩ := b3.c4
    have b3_z := b3.free
    have b3_l := b3.lt
    go_wp2_with fail
    refine (mMade_d (x := m6) (hd.ext hx7) HW.out HK3.out).mono ?_
    rintro e10 w10 ⟨v10, rfl, r10, he⟩
    try clear b3_0 b3_1 b3_2 b3_3 b3_z b3_l
    have hx := ext_trans hx he
    have hx7 := ext_trans hx7 he
    have b2 := b2.ext he
    have b3 := b3.ext he
    have b4 := b4.ext he
    have b11 := b11.ext he
    clear he
    clear b3 hp0
    have HSE : Hid ((mMade d m6).data.length ≤ 4096) := Lib.hid (by have := (mWrong_zero HW.out).2.2.2.2.2.1; show d.data.length ≤ 4096; omega)
    obtain ⟨r, hr⟩ : ∃ r, mMade d m6 = r := ⟨_, rfl⟩
    rw [hr] at r10 HB HSE
    clear hr
    obtain ⟨u10, rfl, hu10⟩ := r10
    obtain ⟨A10, n10, c10, rfl, _, _⟩ := hu10.form
    go_upto_region 17 with (fail)
    generalize hwn : World.alloc w10 _ = w15
    have he : Ext w10 w15 := by rw [← hwn]; exact ext_alloc _ _
    have b15 : Box w15 w10.heap.size 54 #[.int .i64 r.kind, .int .i64 r.key, .int .i64 r.ver, .slice A10 n10 c10] := by rw [← hwn]; exact Box.new _ _ _ (by simp)
    clear hwn
    have l15 := b11.lt
    have hx := ext_trans hx he
    have hx7 := ext_trans hx7 he
    have hu10 := hu10.ext he
    have b2 := b2.ext he
    have b4 := b4.ext he
    have b11 := b11.ext he
    clear he
    obtain ⟨g15, hg15⟩ : ∃ g, g = w10.heap.size := ⟨_, rfl⟩
    rw [← hg15] at b15 l15 ⊢
    clear hg15
    obtain ⟨b2_0, b2_1, b2_2, b2_3⟩ := b2.c4
    have b2_z := b2.free
    have b2_l := b2.lt
    obtain ⟨b15_0, b15_1, b15_2, b15_3⟩ := b15.c4
    have b15_z := b15.free
    have b15_l := b15.lt
    go_wp2_with fail
    refine (pPut_v (p := p) (r := r) (hdk.ext hx7) HFD.out.ok (by have := HFD.out.late; omega) ⟨_, rfl, hu10⟩).mono ?_
    rintro e11 w11 ⟨v11, q11, rfl, hq11, d11, he⟩
    try clear b2_0 b2_1 b2_2 b2_3 b2_z b2_l b15_0 b15_1 b15_2 b15_3 b15_z b15_l
    have hx := ext_trans hx he
    have hx7 := ext_trans hx7 he
    have hu10 := hu10.ext he
    have b2 := b2.ext he
    have b4 := b4.ext he
    have b11 := b11.ext he
    have b15 := b15.ext he
    clear he
    clear hq11
    have d11 := d11.sub tDS (Nat.le_refl _)
    obtain ⟨A11, n11, c11, E11, m11, e11, rfl, _, _, _, _, _, _⟩ := d11.form
    have k11 := b11.kd
    obtain ⟨b11_0, b11_1, b11_2, b11_3⟩ := b11.c4
    have b11_z := b11.free
    have b11_l := b11.lt
    go_upto_region 18 with (fail)
    try clear b11_0 b11_1 b11_2 b11_3 b11_z b11_l
    generalize hwn : World.setCell (World.setCell w11 _ _) _ _ = w12
    have b2 : Box w12 g2 30 #[.slice A 12 c, .slice E m e, .slice F k f, .int .i64 s.next] := by rw [← hwn]; (repeat (with_reducible (first | assumption | refine Box.alloc ?_ _ | refine Box.setOther ?_ (by simp <;> omega) _)))
    have b4 : Box w12 g4 30 #[.slice none 0 0, .slice none 0 0, .slice none 0 0, .int .i64 0] := by rw [← hwn]; (repeat (with_reducible (first | assumption | refine Box.alloc ?_ _ | refine Box.setOther ?_ (by simp <;> omega) _)))
    have d11 := d11.kept (w' := w12) (T := tS) (base := 0) (by rw [← hwn]; (repeat (with_reducible (first | assumption | exact Kept.refl _ _ _ | (apply Kept.setK; rotate_left; (repeat (first | assumption | apply Kd.set | apply Kd.alloc | apply Kd.drew)); decide; omega) | refine Kept.allocK ?_ _ | refine Kept.drewK ?_))))
    have hx : Ext w w12 := by rw [← hwn]; (repeat (with_reducible (first | assumption | exact Below.refl _ _ | refine Below.setCell ?_ (by simp <;> omega) _ | refine Below.alloc ?_ (by simp <;> omega) _ | refine Below.drew ?_ | refine below_drewN ?_ _)))
    have hx7 : Ext w7 w12 := by rw [← hwn]; (repeat (with_reducible (first | assumption | exact Below.refl _ _ | refine Below.setCell ?_ (by simp <;> omega) _ | refine Below.alloc ?_ (by simp <;> omega) _ | refine Below.drew ?_ | refine below_drewN ?_ _)))
    have b15 : Box w12 g15 54 #[.int .i64 r.kind, .int .i64 r.key, .int .i64 r.ver, .slice A10 n10 c10] := by rw [← hwn]; (repeat (with_reducible (first | assumption | refine Box.alloc ?_ _ | refine Box.setOther ?_ (by simp <;> omega) _)))
    have hu10 : ByT w12 0 (.slice A10 n10 c10) r.data := hu10.kept (T := tS) (by rw [← hwn]; (repeat (with_reducible (first | assumption | exact Kept.refl _ _ _ | (apply Kept.setK; rotate_left; (repeat (first | assumption | apply Kd.set | apply Kd.alloc | apply Kd.drew)); decide; omega) | refine Kept.allocK ?_ _ | refine Kept.drewK ?_))))
    have b11 : Box w12 g11 30 #[.slice A11 n11 c11, .slice E11 m11 e11, .slice F7 k7 f7, .int .i64 s.next] := by rw [← hwn]; exact (b11.set 0 _).set 1 _
    clear hwn k11
    obtain ⟨b2_0, b2_1, b2_2, b2_3⟩ := b2.c4
    have b2_z := b2.free
    have b2_l := b2.lt
    obtain ⟨b15_0, b15_1, b15_2, b15_3⟩ := b15.c4
    have b15_z := b15.free
    have b15_l := b15.lt
    go_wp2_with fail
    refine (ixAdd_v (e := ⟨r, p⟩) (hi.ext hx7) (by have := right_len HG.out.right; omega) HF.out.small ⟨_, rfl, hu10⟩ HSE.out).mono ?_
    rintro e13 w13 ⟨v13, l13, rfl, hp13, hs13, o13, he⟩
    try clear b2_0 b2_1 b2_2 b2_3 b2_z b2_l b15_0 b15_1 b15_2 b15_3 b15_z b15_l
    have hx := ext_trans hx he
    have d11 := d11.ext he
    have b2 := b2.ext he
    have b4 := b4.ext he
    have b11 := b11.ext he
    have b15 := b15.ext he
    clear he
    have r13 := o13.row (T := tS) (base := 0) (base' := 0) (by decide) (Nat.le_refl _)
    obtain rfl : l13 = iIns s.index ⟨r, p⟩ := ins_of HG.out.right hp13 hs13 HNO.out
    clear o13 hp13 hs13
    obtain ⟨A13, n13, c13, rfl, _, _, _⟩ := r13.form
    have k11 := b11.kd
    obtain ⟨b11_0, b11_1, b11_2, b11_3⟩ := b11.c4
    have b11_z := b11.free
    have b11_l := b11.lt
    go_upto_region 19 with (fail)
    try clear b11_0 b11_1 b11_2 b11_3 b11_z b11_l
    generalize hwn : World.setCell w13 _ _ = w14
    have b4 : Box w14 g4 30 #[.slice none 0 0, .slice none 0 0, .slice none 0 0, .int .i64 0] := by rw [← hwn]; (repeat (with_reducible (first | assumption | refine Box.alloc ?_ _ | refine Box.setOther ?_ (by simp <;> omega) _)))
    have d11 := d11.kept (w' := w14) (T := tS) (base := 0) (by rw [← hwn]; (repeat (with_reducible (first | assumption | exact Kept.refl _ _ _ | (apply Kept.setK; rotate_left; (repeat (first | assumption | apply Kd.set | apply Kd.alloc | apply Kd.drew)); decide; omega) | refine Kept.allocK ?_ _ | refine Kept.drewK ?_))))
    have r13 := r13.kept (w' := w14) (T := tS) (base := 0) (by rw [← hwn]; (repeat (with_reducible (first | assumption | exact Kept.refl _ _ _ | (apply Kept.setK; rotate_left; (repeat (first | assumption | apply Kd.set | apply Kd.alloc | apply Kd.drew)); decide; omega) | refine Kept.allocK ?_ _ | refine Kept.drewK ?_))))
    have hx : Ext w w14 := by rw [← hwn]; (repeat (with_reducible (first | assumption | exact Below.refl _ _ | refine Below.setCell ?_ (by simp <;> omega) _ | refine Below.alloc ?_ (by simp <;> omega) _ | refine Below.drew ?_ | refine below_drewN ?_ _)))
    have b11 : Box w14 g11 30 #[.slice A11 n11 c11, .slice E11 m11 e11, .slice A13 n13 c13, .int .i64 s.next] := by rw [← hwn]; exact b11.set 2 _
    clear hwn k11
    have k4 := b4.kd
    obtain ⟨b11_0, b11_1, b11_2, b11_3⟩ := b11.c4
    have b11_z := b11.free
    have b11_l := b11.lt
    obtain ⟨b4_0, b4_1, b4_2, b4_3⟩ := b4.c4
    have b4_z := b4.free
    have b4_l := b4.lt
    go_wp2_with fail
    ((try simp only [Exit.inBlock, Exit.then]); refine bodyPost_ret (v := ?_) ?resultOf rfl ?_; case resultOf => (rw [results_ctt rfl]; go_simp; rfl))
    try clear b11_0 b11_1 b11_2 b11_3 b11_z b11_l b4_0 b4_1 b4_2 b4_3 b4_z b4_l
    rw [HB.out]
    exact ⟨_, rfl, StoV.mk (d11.kept (by (repeat (with_reducible (first | assumption | exact Kept.refl _ _ _ | (apply Kept.setK; rotate_left; (repeat (first | assumption | apply Kd.set | apply Kd.alloc | apply Kd.drew)); decide; omega) | refine Kept.allocK ?_ _ | refine Kept.drewK ?_))))) (r13.kept (by (repeat (with_reducible (first | assumption | exact Kept.refl _ _ _ | (apply Kept.setK; rotate_left; (repeat (first | assumption | apply Kd.set | apply Kd.alloc | apply Kd.drew)); decide; omega) | refine Kept.allocK ?_ _ | refine Kept.drewK ?_))))) rfl, by (repeat (with_reducible (first | assumption | exact Below.refl _ _ | refine Below.setCell ?_ (by simp <;> omega) _ | refine Below.alloc ?_ (by simp <;> omega) _ | refine Below.drew ?_ | refine below_drewN ?_ _)))⟩
  ·have HB := Lib.hid (begin_no HW.out (s := s) (by rw [← HQ6.out]; exact hq))
   have HQ := Lib.hid HQ6.out.symm
   have q : (q6 != 0) = true := by simpa using hq
   clear hq
   obtain ⟨b2_0, b2_1, b2_2, b2_3⟩ := b2.c4
   have b2_z := b2.free
   have b2_l := b2.lt
   go_wp2_with fail
   refine (stoOwn_v h HF.out).mono ?_
   rintro e7 w7 ⟨v7, rfl, s7, he⟩
   try clear b2_0 b2_1 b2_2 b2_3 b2_z b2_l
   have hx := ext_trans hx he
   have b2 := b2.ext he
   have b3 := b3.ext he
   have b4 := b4.ext he
   clear he
   obtain ⟨A7, n7, c7, E7, m7, e7, F7, k7, f7, rfl, _, _, _, _, _, _, _, _⟩ := s7.form
   have k4 := b4.kd
   obtain ⟨b4_0, b4_1, b4_2, b4_3⟩ := b4.c4
   have b4_z := b4.free
   have b4_l := b4.lt
   go_wp2_with fail
   ((try simp only [Exit.inBlock, Exit.then]); refine bodyPost_ret (v := ?_) ?resultOf rfl ?_; case resultOf => (rw [results_ctt rfl]; go_simp; rfl))
   try clear b4_0 b4_1 b4_2 b4_3 b4_z b4_l
   rw [HB.out, HQ.out]
   exact ⟨_, rfl, s7.kept (by (repeat (with_reducible (first | assumption | exact Kept.refl _ _ _ | (apply Kept.setK; rotate_left; (repeat (first | assumption | apply Kd.set | apply Kd.alloc | apply Kd.drew)); decide; omega) | refine Kept.allocK ?_ _ | refine Kept.drewK ?_)))), by (repeat (with_reducible (first | assumption | exact Below.refl _ _ | refine Below.setCell ?_ (by simp <;> omega) _ | refine Below.alloc ?_ (by simp <;> omega) _ | refine Below.drew ?_ | refine below_drewN ?_ _)))⟩
 ·have HB := Lib.hid (begin_wrong (s := s) hw)
  have q : (mWrong d != 0) = true := by simpa using hw
  clear hw
  obtain ⟨b2_0, b2_1, b2_2, b2_3⟩ := b2.c4
  have b2_z := b2.free
  have b2_l := b2.lt
  go_wp2_with fail
  refine (stoOwn_v h HF.out).mono ?_
  rintro e7 w7 ⟨v7, rfl, s7, he⟩
  try clear b2_0 b2_1 b2_2 b2_3 b2_z b2_l
  have hx := ext_trans hx he
  have b2 := b2.ext he
  have b3 := b3.ext he
  have b4 := b4.ext he
  clear he
  obtain ⟨A7, n7, c7, E7, m7, e7, F7, k7, f7, rfl, _, _, _, _, _, _, _, _⟩ := s7.form
  have k4 := b4.kd
  obtain ⟨b4_0, b4_1, b4_2, b4_3⟩ := b4.c4
  have b4_z := b4.free
  have b4_l := b4.lt
  go_wp2_with fail
  ((try simp only [Exit.inBlock, Exit.then]); refine bodyPost_ret (v := ?_) ?resultOf rfl ?_; case resultOf => (rw [results_ctt rfl]; go_simp; rfl))
  try clear b4_0 b4_1 b4_2 b4_3 b4_z b4_l
  rw [HB.out]
  exact ⟨_, rfl, s7.kept (by (repeat (with_reducible (first | assumption | exact Kept.refl _ _ _ | (apply Kept.setK; rotate_left; (repeat (first | assumption | apply Kd.set | apply Kd.alloc | apply Kd.drew)); decide; omega) | refine Kept.allocK ?_ _ | refine Kept.drewK ?_)))), by (repeat (with_reducible (first | assumption | exact Below.refl _ _ | refine Below.setCell ?_ (by simp <;> omega) _ | refine Below.alloc ?_ (by simp <;> omega) _ | refine Below.drew ?_ | refine below_drewN ?_ _)))⟩
end Go.Proofs.YtdmnmfnmaccmoaaGreatDoor
