/- The statement FsckTells: the walk of the law. -/
import Derived.Test.YtpidjkadpnjahaaFs7
import Derived.Test.YtpidjkadpnjahaaA4
namespace Go.Proofs.Ytpidjkadpnjahaa
open Go Go.RowKit
theorem dRight_ev {d : Dsk} (h : dRight d = true) : dEven d := ⟨(dRight_dEven h).1, (dRight_dEven h).2⟩
theorem sameBlks_v {T T' : List TypeId} {w : World} {base base' : Nat} {v v' : Value} {l l' : List (List UInt8)} (h : Row eBlk T w base v l) (h' : Row eBlk T' w base' v' l') :
  Calls Try.prog 84 #[v, v'] w fun e w' => e = .returned (.bool (l == l')) ∧ Ext w w' := by
 obtain ⟨A, n, c, rfl, _⟩ := h.form
 obtain ⟨A', n', c', rfl, _⟩ := h'.form
 exact sameBlocks_w w h.blks h'.blks (Nat.le_refl _) (Nat.le_refl _)
set_option maxRecDepth 100000 in
set_option maxHeartbeats 4000000 in
theorem fsckTells_law (w : World) {v u : Value} {d : Dsk} {l : List Ent} (h : DskV tD w w.heap.size v d) (hl : Row eEnt [] w w.heap.size u l) :
  Calls Try.prog 9 #[v, u] w fun e w' => e = .returned (.bool true) ∧ Ext w w' := by
 obtain ⟨A, n, c, E, m, e, rfl, _, _, hb, _, _, _⟩ := h.form
 obtain ⟨A1, n1, c1, rfl, _, _, _⟩ := hl.form
 go_enter Try.func9, Try.ntmps9
 go_upto_region 1 with (fail)
 generalize hwn : World.alloc w _ = W
 have hx : Ext w W := by rw [← hwn]; exact ext_alloc _ _
 have b2 : Box W w.heap.size 42 #[.slice A n c, .slice E m e] := by rw [← hwn]; exact Box.new _ _ _ rfl
 clear hwn
 have h := h.ext hx
 have hb := hb.ext hx
 have hl := hl.ext hx
 obtain ⟨b2_0, b2_1⟩ := b2.c2
 have b2_z := b2.free
 have b2_l := b2.lt
 go_wp2_with fail
 refine (rightDisk_v h).mono ?_
 rintro e1 w1 ⟨rfl, he⟩
 try clear b2_0 b2_1 b2_z b2_l
 have hx := ext_trans hx he
 have h := h.ext he
 have hb := hb.ext he
 have hl := hl.ext he
 have b2 := b2.ext he
 clear he
 cases hrd : dRight d with
 | false =>
  go_wp2_with fail
  go_ret
  exact ⟨rfl, hx⟩
 | true =>
  have HF := Lib.hid (dRight_fine hrd)
  have HE := Lib.hid (dRight_ev hrd)
  clear hrd
  obtain ⟨b2_0, b2_1⟩ := b2.c2
  have b2_z := b2.free
  have b2_l := b2.lt
  go_wp2_with fail
  refine (fClean_v h HF.out HE.out.len).mono ?_
  rintro e2 w2 ⟨v2, tw2, rfl, d5, r7, he⟩
  try clear b2_0 b2_1 b2_z b2_l
  have hx := ext_trans hx he
  have h := h.ext he
  have hb := hb.ext he
  have hl := hl.ext he
  have b2 := b2.ext he
  clear he
  have hsz2 := hx.size
  have HC := Lib.hid (fClean_eq HE.out)
  have HS := Lib.hid (show fSound d = ((fClean d).1.blocks == d.blocks) from rfl)
  have HG := Lib.hid (HE.out.keep)
  rw [HC.out] at d5 r7 HS ⊢
  have HT := Lib.hid (fTwice12 HG.out)
  have HR := Lib.hid (rcTo_eq HG.out (fTwice (dKeep d 0)))
  rw [HT.out] at HR d5 r7 HS
  obtain ⟨A5, k5, c5, E5, m5, e5, rfl, _, _, _, _, _, _⟩ := d5.form
  obtain ⟨A7, n7, c7, rfl, hn7, hc7, HN7⟩ := r7.form
  unfold maxLen at hc7
  unfold repC
  go_upto_region 4 with (fail)
  generalize hwn : World.alloc (World.alloc w2 _) _ = w3
  have he : Ext w2 w3 := by rw [← hwn]; exact (ext_alloc _ _).alloc (by simp) _
  have b5 : Box w3 w2.heap.size 42 #[.slice A5 k5 c5, .slice E5 m5 e5] := by rw [← hwn]; exact (Box.new _ _ _ (by simp)).alloc _
  have b6 : Box w3 (w2.heap.size + 1) 89 (repC (scHows (dKeep d 0) 6)) := by rw [← hwn]; exact Box.new _ _ _ (by simp)
  clear hwn
  have hx := ext_trans hx he
  have h := h.ext he
  have hb := hb.ext he
  have hl := hl.ext he
  have b2 := b2.ext he
  have d5 := d5.ext he
  have r7 := r7.ext he
  clear he
  obtain ⟨g5, hg5⟩ : ∃ g, g = w2.heap.size := ⟨_, rfl⟩
  obtain ⟨g6, hg6⟩ : ∃ g, g = w2.heap.size + 1 := ⟨_, rfl⟩
  rw [← hg6] at b6 ⊢
  rw [← hg5] at b5 ⊢
  clear hg5 hg6
  obtain ⟨b2_0, b2_1⟩ := b2.c2
  have b2_z := b2.free
  have b2_l := b2.lt
  go_wp2_with fail
  refine (refClean_v hx.size (h.sub tDS' (Nat.le_refl _)) HF.out).mono ?_
  rintro e4 w4 ⟨v4, tw4, rfl, d8, r10, he⟩
  try clear b2_0 b2_1 b2_z b2_l
  have hx := ext_trans hx he
  have h := h.ext he
  have hb := hb.ext he
  have hl := hl.ext he
  have b2 := b2.ext he
  have b5 := b5.ext he
  have b6 := b6.ext he
  have d5 := d5.ext he
  have r7 := r7.ext he
  clear he
  rw [HR.out] at d8
  generalize tTo (dKeep d 0) 6 = tw at d5 d8 r7 r10 HS HN7
  clear HR HT HC HG
  generalize scHows (dKeep d 0) 6 = hw at b6 ⊢
  generalize hyy : (⟨fBlocks (fTell (dKeep d 0) tw), []⟩ : Dsk) = y at d5 d8
  have HS := Lib.hid (show fSound d = (y.blocks == d.blocks) by rw [← hyy]; exact HS.out)
  clear hyy
  obtain ⟨A8, k8, c8, E8, m8, e8, rfl, _, _, rb8, _, _, _⟩ := d8.form
  obtain ⟨A10, n10, c10, rfl, hn10, hc10, HN10⟩ := r10.form
  unfold maxLen at hc10
  obtain rfl : n10 = n7 := HN10.out.trans HN7.out.symm
  unfold repC
  go_upto_region 5 with (fail)
  generalize hwn : World.alloc (World.alloc w4 _) _ = w5
  have he : Ext w4 w5 := by rw [← hwn]; exact (ext_alloc _ _).alloc (by simp) _
  have b8 : Box w5 w4.heap.size 42 #[.slice A8 k8 c8, .slice E8 m8 e8] := by rw [← hwn]; exact (Box.new _ _ _ (by simp)).alloc _
  have b9 : Box w5 (w4.heap.size + 1) 89 (repC hw) := by rw [← hwn]; exact Box.new _ _ _ (by simp)
  clear hwn
  have hx := ext_trans hx he
  have h := h.ext he
  have hb := hb.ext he
  have hl := hl.ext he
  have b2 := b2.ext he
  have b5 := b5.ext he
  have b6 := b6.ext he
  have d5 := d5.ext he
  have r7 := r7.ext he
  have d8 := d8.ext he
  have r10 := r10.ext he
  have rb8 := rb8.ext he
  clear he
  obtain ⟨g8, hg8⟩ : ∃ g, g = w4.heap.size := ⟨_, rfl⟩
  obtain ⟨g9, hg9⟩ : ∃ g, g = w4.heap.size + 1 := ⟨_, rfl⟩
  rw [← hg9] at b9 ⊢
  rw [← hg8] at b8 ⊢
  clear hg8 hg9
  have rs := fun w => rep_same hw w
  unfold repC at rs
  obtain ⟨b5_0, b5_1⟩ := b5.c2
  have b5_z := b5.free
  have b5_l := b5.lt
  obtain ⟨b6_0, b6_1, b6_2, b6_3, b6_4, b6_5⟩ := b6.c6
  have b6_z := b6.free
  have b6_l := b6.lt
  obtain ⟨b8_0, b8_1⟩ := b8.c2
  have b8_z := b8.free
  have b8_l := b8.lt
  obtain ⟨b9_0, b9_1, b9_2, b9_3, b9_4, b9_5⟩ := b9.c6
  have b9_z := b9.free
  have b9_l := b9.lt
  go_wp2_with fail
  refine (sameDisk_v d5 d8).mono ?_
  rintro e6 w6 ⟨rfl, he⟩
  rw [dSame_id]
  try clear b5_0 b5_1 b5_z b5_l b6_0 b6_1 b6_2 b6_3 b6_4 b6_5 b6_z b6_l b8_0 b8_1 b8_z b8_l b9_0 b9_1 b9_2 b9_3 b9_4 b9_5 b9_z b9_l
  clear rs b9 b6 b5 d5
  have hx := ext_trans hx he
  have h := h.ext he
  have hb := hb.ext he
  have hl := hl.ext he
  have b2 := b2.ext he
  have r7 := r7.ext he
  have b8 := b8.ext he
  have d8 := d8.ext he
  have r10 := r10.ext he
  have rb8 := rb8.ext he
  clear he
  have qn : ((n10 : Int) != (n10 : Int)) = false := by simp
  go_wp2_with fail
  clear qn
  go_loopw [48] (fun i wr => ∃ a : Nat, a ≤ n10 ∧ i = .int .i64 a ∧ Ext w6 wr) (fun i _ => n10 - (intOf i).toNat)
  case atStart => exact ⟨0, by omega, rfl, Below.refl _ _⟩
  case round =>
   obtain ⟨a, ha, rfl, hxd⟩ := hrel
   by_cases hlt : a < n10
   ·have i0 : (0 : Int) ≤ (a : Int) := by omega
    have i1 : (a : Int) < (n10 : Int) := by omega
    go_upto_region 10 with (fail)
    have hxd := hxd.drew
    refine wp_region_ext 9 [0, 1, 2, 3, 4, 5, 6, 7, 8] false rfl (by kernel_rfl) (by kernel_rfl) ?_
    generalize wr.drew = D at hxd ⊢
    obtain ⟨g3, o3, rfl, _, _⟩ := r7.int_at hlt
    obtain ⟨g4, o4, rfl, _, _⟩ := r10.int_at hlt
    have f3 := fun w' (hx' : Ext w6 w') => (r7.ext hx').int_at hlt
    have f4 := fun w' (hx' : Ext w6 w') => (r10.ext hx').int_at hlt
    generalize tw.getD a 0 = z at f3 f4
    have qz : (z != z) = false := by simp
    apply mixF 0 (by kernel_rfl) (by rfl) (by rfl)
    ·(intro w' hx; obtain ⟨_, _, e3, _, x0⟩ := f3 _ (ext_trans hxd hx); obtain ⟨_, _, e4, _, y0⟩ := f4 _ (ext_trans hxd hx); cases e3; cases e4; go_simp <;> with_reducible rfl)
    simp only [pA, pB, pC, pD]
    apply mixF 1 (by kernel_rfl) (by rfl) (by rfl)
    ·(intro w' hx; obtain ⟨_, _, e3, _, x0⟩ := f3 _ (ext_trans hxd hx); obtain ⟨_, _, e4, _, y0⟩ := f4 _ (ext_trans hxd hx); cases e3; cases e4; go_simp <;> with_reducible rfl)
    simp only [pA, pB, pC, pD]
    apply mixF 2 (by kernel_rfl) (by rfl) (by rfl)
    ·(intro w' hx; obtain ⟨_, _, e3, _, x0⟩ := f3 _ (ext_trans hxd hx); obtain ⟨_, _, e4, _, y0⟩ := f4 _ (ext_trans hxd hx); cases e3; cases e4; go_simp <;> with_reducible rfl)
    simp only [pA, pB, pC, pD]
    apply mixF 3 (by kernel_rfl) (by rfl) (by rfl)
    ·(intro w' hx; obtain ⟨_, _, e3, _, x0⟩ := f3 _ (ext_trans hxd hx); obtain ⟨_, _, e4, _, y0⟩ := f4 _ (ext_trans hxd hx); cases e3; cases e4; go_simp <;> with_reducible rfl)
    simp only [pA, pB, pC, pD]
    apply mixF 4 (by kernel_rfl) (by rfl) (by rfl)
    ·(intro w' hx; obtain ⟨_, _, e3, _, x0⟩ := f3 _ (ext_trans hxd hx); obtain ⟨_, _, e4, _, y0⟩ := f4 _ (ext_trans hxd hx); cases e3; cases e4; go_simp <;> with_reducible rfl)
    simp only [pA, pB, pC, pD]
    apply mixF 5 (by kernel_rfl) (by rfl) (by rfl)
    ·(intro w' hx; obtain ⟨_, _, e3, _, x0⟩ := f3 _ (ext_trans hxd hx); obtain ⟨_, _, e4, _, y0⟩ := f4 _ (ext_trans hxd hx); cases e3; cases e4; go_simp <;> with_reducible rfl)
    simp only [pA, pB, pC, pD]
    apply mixF 6 (by kernel_rfl) (by rfl) (by rfl)
    ·(intro w' hx; obtain ⟨_, _, e3, _, x0⟩ := f3 _ (ext_trans hxd hx); obtain ⟨_, _, e4, _, y0⟩ := f4 _ (ext_trans hxd hx); cases e3; cases e4; go_simp <;> with_reducible rfl)
    simp only [pA, pB, pC, pD]
    apply mixF 7 (by kernel_rfl) (by rfl) (by rfl)
    ·(intro w' hx; obtain ⟨_, _, e3, _, x0⟩ := f3 _ (ext_trans hxd hx); obtain ⟨_, _, e4, _, y0⟩ := f4 _ (ext_trans hxd hx); cases e3; cases e4; go_simp <;> with_reducible rfl)
    simp only [pA, pB, pC, pD]
    apply mixF 8 (by kernel_rfl) (by rfl) (by rfl)
    ·(intro w' hx; obtain ⟨_, _, e3, _, x0⟩ := f3 _ (ext_trans hxd hx); obtain ⟨_, _, e4, _, y0⟩ := f4 _ (ext_trans hxd hx); cases e3; cases e4; go_simp <;> with_reducible rfl)
    simp only [pA, pB, pC, pD]
    refine mixEnd (by kernel_rfl) ?_
    clear f3 f4 qz
    go_wp2_with fail
    refine ⟨⟨a + 1, by omega, rfl, hxd⟩, ?_⟩
    simp only [intOf]
    omega
   ·obtain rfl : a = n10 := by omega
    clear r7 r10 HN7 HN10
    have hx := ext_trans hx hxd
    have h := h.ext hxd
    have hb := hb.ext hxd
    have hl := hl.ext hxd
    have b2 := b2.ext hxd
    have b8 := b8.ext hxd
    have d8 := d8.ext hxd
    have rb8 := rb8.ext hxd
    clear hxd
    obtain ⟨b2_0, b2_1⟩ := b2.c2
    have b2_z := b2.free
    have b2_l := b2.lt
    go_wp2_with fail
    refine (refTwice_v h HF.out.ok).mono ?_
    rintro e7 w7 ⟨v7, rfl, o7, he⟩
    try clear b2_0 b2_1 b2_z b2_l
    have hx := ext_trans hx he
    have h := h.ext he
    have hb := hb.ext he
    have hl := hl.ext he
    have b2 := b2.ext he
    have b8 := b8.ext he
    have d8 := d8.ext he
    have rb8 := rb8.ext he
    clear he
    have r12 := o7.row (T := [3]) (base := 0) (by decide) (Nat.le_refl _)
    clear o7
    obtain ⟨b2_0, b2_1⟩ := b2.c2
    have b2_z := b2.free
    have b2_l := b2.lt
    go_wp2_with fail
    refine (fTwice_v h HF.out.ok).mono ?_
    rintro e8 w8 ⟨v8, rfl, o8, he⟩
    try clear b2_0 b2_1 b2_z b2_l
    have hx := ext_trans hx he
    have h := h.ext he
    have hb := hb.ext he
    have hl := hl.ext he
    have b2 := b2.ext he
    have b8 := b8.ext he
    have d8 := d8.ext he
    have rb8 := rb8.ext he
    have r12 := r12.ext he
    clear he
    have r13 := o8.row (T := [3]) (base := 0) (by decide) (Nat.le_refl _)
    clear o8
    rw [show fTwice d = tTo d 6 by unfold fTwice; rw [HE.out.len]] at r13
    generalize tTo d 6 = tv at r12 r13
    obtain ⟨A12, n12, c12, rfl, hn12, hc12, HN12⟩ := r12.form
    obtain ⟨A13, n13, c13, rfl, hn13, hc13, HN13⟩ := r13.form
    unfold maxLen at hc12 hc13
    obtain rfl : n13 = n12 := HN13.out.trans HN12.out.symm
    have qn : ((n13 : Int) != (n13 : Int)) = false := by simp
    go_wp2_with fail
    clear qn
    go_loopw [72] (fun i wr => ∃ a : Nat, a ≤ n13 ∧ i = .int .i64 a ∧ Ext w8 wr) (fun i _ => n13 - (intOf i).toNat)
    case atStart => exact ⟨0, by omega, rfl, Below.refl _ _⟩
    case round =>
     obtain ⟨a, ha, rfl, hxd⟩ := hrel
     by_cases hlt : a < n13
     ·have i0 : (0 : Int) ≤ (a : Int) := by omega
      have i1 : (a : Int) < (n13 : Int) := by omega
      go_upto_region 20 with (fail)
      have hxd := hxd.drew
      refine wp_region_ext 9 [0, 1, 2, 3, 4, 5, 6, 7, 8] false rfl (by kernel_rfl) (by kernel_rfl) ?_
      generalize wr.drew = D at hxd ⊢
      obtain ⟨g3, o3, rfl, _, _⟩ := r12.int_at hlt
      obtain ⟨g4, o4, rfl, _, _⟩ := r13.int_at hlt
      have f3 := fun w' (hx' : Ext w8 w') => (r12.ext hx').int_at hlt
      have f4 := fun w' (hx' : Ext w8 w') => (r13.ext hx').int_at hlt
      generalize tv.getD a 0 = z at f3 f4
      have qz : (z != z) = false := by simp
      apply mixF 0 (by kernel_rfl) (by rfl) (by rfl)
      ·(intro w' hx; obtain ⟨_, _, e3, _, x0⟩ := f3 _ (ext_trans hxd hx); obtain ⟨_, _, e4, _, y0⟩ := f4 _ (ext_trans hxd hx); cases e3; cases e4; go_simp <;> with_reducible rfl)
      simp only [pA, pB, pC, pD]
      apply mixF 1 (by kernel_rfl) (by rfl) (by rfl)
      ·(intro w' hx; obtain ⟨_, _, e3, _, x0⟩ := f3 _ (ext_trans hxd hx); obtain ⟨_, _, e4, _, y0⟩ := f4 _ (ext_trans hxd hx); cases e3; cases e4; go_simp <;> with_reducible rfl)
      simp only [pA, pB, pC, pD]
      apply mixF 2 (by kernel_rfl) (by rfl) (by rfl)
      ·(intro w' hx; obtain ⟨_, _, e3, _, x0⟩ := f3 _ (ext_trans hxd hx); obtain ⟨_, _, e4, _, y0⟩ := f4 _ (ext_trans hxd hx); cases e3; cases e4; go_simp <;> with_reducible rfl)
      simp only [pA, pB, pC, pD]
      apply mixF 3 (by kernel_rfl) (by rfl) (by rfl)
      ·(intro w' hx; obtain ⟨_, _, e3, _, x0⟩ := f3 _ (ext_trans hxd hx); obtain ⟨_, _, e4, _, y0⟩ := f4 _ (ext_trans hxd hx); cases e3; cases e4; go_simp <;> with_reducible rfl)
      simp only [pA, pB, pC, pD]
      apply mixF 4 (by kernel_rfl) (by rfl) (by rfl)
      ·(intro w' hx; obtain ⟨_, _, e3, _, x0⟩ := f3 _ (ext_trans hxd hx); obtain ⟨_, _, e4, _, y0⟩ := f4 _ (ext_trans hxd hx); cases e3; cases e4; go_simp <;> with_reducible rfl)
      simp only [pA, pB, pC, pD]
      apply mixF 5 (by kernel_rfl) (by rfl) (by rfl)
      ·(intro w' hx; obtain ⟨_, _, e3, _, x0⟩ := f3 _ (ext_trans hxd hx); obtain ⟨_, _, e4, _, y0⟩ := f4 _ (ext_trans hxd hx); cases e3; cases e4; go_simp <;> with_reducible rfl)
      simp only [pA, pB, pC, pD]
      apply mixF 6 (by kernel_rfl) (by rfl) (by rfl)
      ·(intro w' hx; obtain ⟨_, _, e3, _, x0⟩ := f3 _ (ext_trans hxd hx); obtain ⟨_, _, e4, _, y0⟩ := f4 _ (ext_trans hxd hx); cases e3; cases e4; go_simp <;> with_reducible rfl)
      simp only [pA, pB, pC, pD]
      apply mixF 7 (by kernel_rfl) (by rfl) (by rfl)
      ·(intro w' hx; obtain ⟨_, _, e3, _, x0⟩ := f3 _ (ext_trans hxd hx); obtain ⟨_, _, e4, _, y0⟩ := f4 _ (ext_trans hxd hx); cases e3; cases e4; go_simp <;> with_reducible rfl)
      simp only [pA, pB, pC, pD]
      apply mixF 8 (by kernel_rfl) (by rfl) (by rfl)
      ·(intro w' hx; obtain ⟨_, _, e3, _, x0⟩ := f3 _ (ext_trans hxd hx); obtain ⟨_, _, e4, _, y0⟩ := f4 _ (ext_trans hxd hx); cases e3; cases e4; go_simp <;> with_reducible rfl)
      simp only [pA, pB, pC, pD]
      refine mixEnd (by kernel_rfl) ?_
      clear f3 f4 qz
      go_wp2_with fail
      refine ⟨⟨a + 1, by omega, rfl, hxd⟩, ?_⟩
      simp only [intOf]
      omega
     ·obtain rfl : a = n13 := by omega
      clear r12 r13 HN12 HN13
      have hx := ext_trans hx hxd
      have h := h.ext hxd
      have hb := hb.ext hxd
      have hl := hl.ext hxd
      have b2 := b2.ext hxd
      have b8 := b8.ext hxd
      have d8 := d8.ext hxd
      have rb8 := rb8.ext hxd
      clear hxd
      go_upto_region 23 with (fail)
      have hd : Ext wr wr.drew := (Below.refl _ _).drew
      have hx := ext_trans hx hd
      have h := h.ext hd
      have hb := hb.ext hd
      have hl := hl.ext hd
      have b2 := b2.ext hd
      have b8 := b8.ext hd
      have d8 := d8.ext hd
      have rb8 := rb8.ext hd
      clear hd
      refine wp_region_ext 19 [0, 2, 3, 4, 5, 7, 8, 9, 10, 12, 13, 16, 17, 18] false rfl (by kernel_rfl) (by kernel_rfl) ?_
      generalize wr.drew = D at hx h hb hl b2 b8 d8 rb8 ⊢
      apply mixF 0 (by kernel_rfl) (by rfl) (by rfl)
      ·(intro w' hx; obtain ⟨x0, x1⟩ := (b2.ext hx).c2; obtain ⟨y0, y1⟩ := (b8.ext hx).c2; go_simp <;> with_reducible rfl)
      simp only [pA, pB, pC, pD]
      apply mixF 2 (by kernel_rfl) (by rfl) (by rfl)
      ·(intro w' hx; obtain ⟨x0, x1⟩ := (b2.ext hx).c2; obtain ⟨y0, y1⟩ := (b8.ext hx).c2; go_simp <;> with_reducible rfl)
      simp only [pA, pB, pC, pD]
      apply mixF 3 (by kernel_rfl) (by rfl) (by rfl)
      ·(intro w' hx; obtain ⟨x0, x1⟩ := (b2.ext hx).c2; obtain ⟨y0, y1⟩ := (b8.ext hx).c2; go_simp <;> with_reducible rfl)
      simp only [pA, pB, pC, pD]
      apply mixF 4 (by kernel_rfl) (by rfl) (by rfl)
      ·(intro w' hx; obtain ⟨x0, x1⟩ := (b2.ext hx).c2; obtain ⟨y0, y1⟩ := (b8.ext hx).c2; go_simp <;> with_reducible rfl)
      simp only [pA, pB, pC, pD]
      apply mixF 5 (by kernel_rfl) (by rfl) (by rfl)
      ·(intro w' hx; obtain ⟨x0, x1⟩ := (b2.ext hx).c2; obtain ⟨y0, y1⟩ := (b8.ext hx).c2; go_simp <;> with_reducible rfl)
      simp only [pA, pB, pC, pD]
      refine mixS 1 (by kernel_rfl) (by kernel_rfl) (by rfl) (by rfl) (fun K hK => ?_)
      go_wp2_with (go_at_call 83; refine (fSound_v h HF.out HE.out.len).mono ?_; rintro e w9 ⟨rfl, he⟩)
      refine hK.out _ _ (he) ?_
      clear hK K
      try simp only [pA, pB, pC, pD]
      rw [HS.out]
      have hx := ext_trans hx he
      have h := h.ext he
      have hb := hb.ext he
      have hl := hl.ext he
      have b2 := b2.ext he
      have rb8 := rb8.ext he
      clear he
      refine mixS 6 (by kernel_rfl) (by kernel_rfl) (by rfl) (by rfl) (fun K hK => ?_)
      go_wp2_with (go_at_call 84; refine (sameBlks_v rb8 hb).mono ?_; rintro e w10 ⟨rfl, he⟩)
      refine hK.out _ _ (he) ?_
      clear hK K
      try simp only [pA, pB, pC, pD]
      have hx := ext_trans hx he
      have h := h.ext he
      have hl := hl.ext he
      have b2 := b2.ext he
      clear he
      generalize (y.blocks == d.blocks) = qb
      have qq : (qb == qb) = true := by simp
      apply mixF 7 (by kernel_rfl) (by rfl) (by rfl)
      ·(intro w' hx; go_simp <;> with_reducible rfl)
      simp only [pA, pB, pC, pD]
      apply mixF 8 (by kernel_rfl) (by rfl) (by rfl)
      ·(intro w' hx; go_simp <;> with_reducible rfl)
      simp only [pA, pB, pC, pD]
      clear qq
      apply mixF 9 (by kernel_rfl) (by rfl) (by rfl)
      ·(intro w' hx; obtain ⟨x0, x1⟩ := (b2.ext hx).c2; go_simp <;> with_reducible rfl)
      simp only [pA, pB, pC, pD]
      apply mixF 10 (by kernel_rfl) (by rfl) (by rfl)
      ·(intro w' hx; obtain ⟨x0, x1⟩ := (b2.ext hx).c2; go_simp <;> with_reducible rfl)
      simp only [pA, pB, pC, pD]
      apply mixF 12 (by kernel_rfl) (by rfl) (by rfl)
      ·(intro w' hx; obtain ⟨x0, x1⟩ := (b2.ext hx).c2; go_simp <;> with_reducible rfl)
      simp only [pA, pB, pC, pD]
      apply mixF 13 (by kernel_rfl) (by rfl) (by rfl)
      ·(intro w' hx; obtain ⟨x0, x1⟩ := (b2.ext hx).c2; go_simp <;> with_reducible rfl)
      simp only [pA, pB, pC, pD]
      refine mixS 11 (by kernel_rfl) (by kernel_rfl) (by rfl) (by rfl) (fun K hK => ?_)
      go_wp2_with (go_at_call 85; refine (fFits_v hl h HF.out.ok).mono ?_; rintro e w11 ⟨rfl, he⟩)
      refine hK.out _ _ (he) ?_
      clear hK K
      try simp only [pA, pB, pC, pD]
      have hx := ext_trans hx he
      have h := h.ext he
      have hl := hl.ext he
      clear he
      refine mixS 14 (by kernel_rfl) (by kernel_rfl) (by rfl) (by rfl) (fun K hK => ?_)
      go_wp2_with (go_at_call 70; refine (refScan_v h HF.out.ok).mono ?_; rintro e w12 ⟨v15, rfl, o15, he⟩)
      refine hK.out _ _ (he) ?_
      clear hK K
      try simp only [pA, pB, pC, pD]
      have hx := ext_trans hx he
      have hl := hl.ext he
      clear he
      refine mixS 15 (by kernel_rfl) (by kernel_rfl) (by rfl) (by rfl) (fun K hK => ?_)
      go_wp2_with (go_at_call 68; refine (sameEnts_v hl (o15.row (T := [74]) (base := 0) (by decide) (Nat.le_refl _))).mono ?_; rintro e w13 ⟨rfl, he⟩)
      refine hK.out _ _ (he) ?_
      clear hK K
      try simp only [pA, pB, pC, pD]
      have hx := ext_trans hx he
      clear he
      have hfx : fFits l d = esSame l (iScan d) := rfl
      rw [hfx]
      clear hfx
      generalize esSame l (iScan d) = qe
      have qq : (qe == qe) = true := by simp
      apply mixF 16 (by kernel_rfl) (by rfl) (by rfl)
      ·(intro w' hx; go_simp <;> with_reducible rfl)
      simp only [pA, pB, pC, pD]
      apply mixF 17 (by kernel_rfl) (by rfl) (by rfl)
      ·(intro w' hx; go_simp <;> with_reducible rfl)
      simp only [pA, pB, pC, pD]
      apply mixF 18 (by kernel_rfl) (by rfl) (by rfl)
      ·(intro w' hx; go_simp <;> with_reducible rfl)
      simp only [pA, pB, pC, pD]
      refine mixEnd (by kernel_rfl) ?_
      go_wp2_with fail
      go_ret
      exact ⟨rfl, hx⟩
end Go.Proofs.Ytpidjkadpnjahaa
