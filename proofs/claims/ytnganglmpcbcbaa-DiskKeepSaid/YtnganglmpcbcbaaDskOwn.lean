/- Walks: a disk's own copy, the package's. -/
import Derived.Test.YtnganglmpcbcbaaDskNew
import Derived.Test.YtnganglmpcbcbaaInc
import Derived.Test.YtnganglmpcbcbaaBlk2
namespace Go.Proofs.Ytnganglmpcbcbaa
open Go Go.RowKit

/-- Small enough to be copied. -/
structure DskOk (d : Dsk) : Prop where
  blocks : d.blocks.length ≤ 4096
  late : d.late.length ≤ 4096
  block : ∀ i, (d.blocks.getD i []).length ≤ 4096
  write : ∀ i, (d.late.getD i (0, [])).2.length ≤ 4096
theorem take_succ_getD {α : Type} (dd : α) (l : List α) (k : Nat) (hk : k < l.length) : l.take (k + 1) = l.take k ++ [l.getD k dd] := by
  rw [List.take_succ_eq_append_getElem hk, List.getD_eq_getElem?_getD, List.getElem?_eq_getElem hk]
  rfl

theorem lcells_inj : ∀ {us vs : List (Int × Value)}, lcells us = lcells vs → us = vs
  | [], [], _ => rfl
  | [], q :: r, h => by simp [lcells] at h
  | q :: r, [], h => by simp [lcells] at h
  | (a, u) :: r, (b, v) :: s, h => by
    simp only [lcells, List.cons.injEq, Value.int.injEq, true_and] at h
    obtain ⟨h1, h2, h3⟩ := h
    rw [h1, h2, lcells_inj h3]

set_option maxRecDepth 100000 in
set_option maxHeartbeats 4000000 in
theorem dskOwn_w {A E : Option Addr} {n c m e B : Nat} {d : Dsk} (w : World) (h : DskAt w B A n c E m e d) (hB : B ≤ w.heap.size) (hk : DskOk d) :
    Calls Try.prog 51 #[.agg #[.slice A n c, .slice E m e]] w fun e w' => ∃ v, e = .returned v ∧ OwnDsk w w' v d ∧ Apart w.heap.size w' v ∧ Ext w w' := by
  have Hk := Lib.hid hk
  have hn := h.blocks.len
  have hm := h.late.len
  have hn2 : n ≤ 4096 := by have := hk.blocks; omega
  have hm2 : m ≤ 4096 := by have := hk.late; omega
  have Hn := Lib.hid hn
  have Hm := Lib.hid hm
  have hcn := h.blocks.cap
  have hcm := h.late.cap
  clear hk hn hm
  go_enter Try.func51, Try.ntmps51
  go_wp2_with fail
  obtain ⟨W, hW⟩ : ∃ W, W = ((w.alloc (.cells #[.slice A n c, .slice E m e] 46)).alloc (.cells #[.slice none 0 0, .slice none 0 0] 46)).alloc (.cells #[.slice none 0 0, .slice none 0 0] 46) := ⟨_, rfl⟩
  rw [← hW]
  have bp : Box W w.heap.size 46 #[.slice A n c, .slice E m e] := by rw [hW]; exact ((Box.new w _ _ rfl).alloc _).alloc _
  have bR : Box W (w.heap.size + 1) 46 #[.slice none 0 0, .slice none 0 0] := by rw [hW]; exact (Box.new _ _ _ (size_alloc _ _).symm).alloc _
  have bd : Box W (w.heap.size + 2) 46 #[.slice none 0 0, .slice none 0 0] := by rw [hW]; exact Box.new _ _ _ (by simp)
  have hwW : Ext w W := by rw [hW]; exact ext_trans (ext_trans (ext_alloc _ _) (ext_alloc _ _)) (ext_alloc _ _)
  have hzW : W.heap.size = w.heap.size + 3 := by rw [hW]; simp
  clear hW
  have h := h.below (hwW.mono hB)
  go_loopw [11] (fun i wr => ∃ (k : Nat) (v : Value), k ≤ n ∧ i = .int .i64 k ∧ Box wr (w.heap.size + 2) 46 #[v, .slice none 0 0] ∧ OwnBlks wr (w.heap.size + 3) 0 v (d.blocks.take k) ∧ (∃ vs, wr.ownsRow (w.heap.size + 3) 22 1 v k vs ∧ Inc w.heap.size vs wr.heap.size) ∧ Below (w.heap.size + 2) W wr) (fun i _ => n - (intOf i).toNat)
  case atStart => exact ⟨0, _, by omega, rfl, bd, OwnBlks.nil _ _ _, ⟨[], own_nil _ _ _ _, Inc.nil _ _⟩, Below.refl _ _⟩
  case round =>
    obtain ⟨k, v, hk, rfl, b7, hown, ⟨vs', ho', hI⟩, hd⟩ := hrel
    have bpr := bp.below hd (by omega)
    have bRr := bR.below hd (by omega)
    by_cases hlt : k < n
    · have i0 : (0 : Int) ≤ (k : Int) := by omega
      have i1 : (k : Int) < (n : Int) := by omega
      have hzr := hd.size
      obtain ⟨b, o, A1, n1, c1, rfl, hb, hc1, hy1⟩ := h.blocks.at_ hlt
      have hcr := (hd.cell (p := ⟨b, o + k, none⟩) (show b < w.heap.size + 2 by omega)).trans hc1
      have hy1 := Sl.below hy1 (hd.mono (by omega))
      have hn1 : n1 ≤ 4096 := by have := Hk.out.block k; have := By.len hy1; omega
      obtain ⟨vs, ho, hv⟩ := hown
      have hlen : (d.blocks.take k).length = k := by have := Hn.out; simp; omega
      rw [hlen] at ho hv
      have e9 := own_unique ho ho'
      subst e9
      have HI := Lib.hid hI
      clear ho' hI
      obtain ⟨Av, cv, rfl, hsv⟩ := own_shape ho
      have Hlen := Lib.hid hlen
      clear hlen
      go_wp2_with fail
      refine wp_region_below (w.heap.size + 3) 8 [0, 1, 2, 6] true rfl (by kernel_rfl) (by kernel_rfl) ?_
      obtain ⟨D, hD⟩ : ∃ D, D = wr.drew := ⟨_, rfl⟩
      rw [← hD]
      have bD : Box D (w.heap.size + 2) 46 #[.slice Av k cv, .slice none 0 0] := by rw [hD]; exact b7
      have hoD : D.ownsRow (w.heap.size + 3) 22 1 (.slice Av k cv) k vs := by rw [hD]; exact ho
      have hwD : Ext wr D := by rw [hD]; exact (Below.refl _ _).drew
      have hdD : Below (w.heap.size + 2) W D := hd.trans (hwD.mono (by omega))
      have hyD := Sl.below hy1 (hwD.mono (by omega))
      have hzD := hdD.size
      clear hD
      apply mixF 0 (by kernel_rfl) (by rfl) (by rfl)
      · (intro w' hx; go_simp <;> with_reducible rfl)
      simp only [Act.put, List.setIfInBounds_toArray, List.set_cons_zero, List.set_cons_succ]
      apply mixF 1 (by kernel_rfl) (by rfl) (by rfl)
      · (intro w' hx; have q := (bD.below hx (by omega)).cell 0 rfl; go_simp <;> with_reducible rfl)
      simp only [Act.put, List.setIfInBounds_toArray, List.set_cons_zero, List.set_cons_succ]
      apply mixF 2 (by kernel_rfl) (by rfl) (by rfl)
      · (intro w' hx; go_simp <;> with_reducible rfl)
      simp only [Act.put, List.setIfInBounds_toArray, List.set_cons_zero, List.set_cons_succ]
      refine mixS 3 (by kernel_rfl) (by kernel_rfl) (by rfl) (by rfl) (fun K hK => ?_)
      go_wp2_with (go_at_call 111; refine (clone_w _ hyD (by omega) (by rw [blim_def]; omega)).mono ?_; rintro e w1 ⟨v1, rfl, own1, he1⟩; obtain ⟨A2, c2, rfl, hs1⟩ := own_shape own1)
      refine hK.out _ _ (he1.mono (by omega)) ?_
      clear hK K
      try simp only [Act.put, List.setIfInBounds_toArray, List.set_cons_zero, List.set_cons_succ]
      have hz1 := he1.size
      refine mixS 4 (by kernel_rfl) (by kernel_rfl) (by rfl) (by rfl) (fun K hK => ?_)
      go_wp2
      refine hK.out _ _ ((ext_alloc _ _).mono (by omega)) ?_
      clear hK K
      try simp only [Act.put, List.setIfInBounds_toArray, List.set_cons_zero, List.set_cons_succ]
      obtain ⟨w4, hw4⟩ : ∃ w4, w4 = w1.alloc (.cells #[.slice A2 n1 c2] 22) := ⟨_, rfl⟩
      rw [← hw4]
      have he4 : Ext w1 w4 := by rw [hw4]; exact ext_alloc _ _
      have hs4 : Sl w4 w4.heap.size 1 (some ⟨w1.heap.size, 0, none⟩) 1 1 [.slice A2 n1 c2] := by rw [hw4]; exact Sl.new _ _ _ _ 1 1 rfl (by unfold maxLen; omega) (by simp)
      have hz4 := he4.size
      clear hw4
      have ho4 := own_ext (own_ext hoD he1) he4
      have hv4 := fun i hi => (((hv i hi).ext hwD).ext he1).ext he4
      have hu4 : ByE w4 0 (.slice A2 n1 c2) (d.blocks.getD k []) := (ByE.of_own (own_more own1 (by omega))).ext he4
      refine mixS 5 (by kernel_rfl) (by kernel_rfl) (by rfl) (by rfl) (fun K hK => ?_)
      refine wp_app_blk (.tmp 16) (.tmp 19) rfl (w.heap.size + 3) (.slice Av k cv) k _ rfl ho4 _ _ 1 1 [.slice A2 n1 c2] rfl hs4 (by simp [Value.oneCell']) (by rw [lim_def]; omega) (by omega) ?_
      intro v7 w7 own7 hg7 hb7 hat7
      refine hK.out _ _ hb7 ?_
      clear hK K hat7
      try simp only [Act.put, List.setIfInBounds_toArray, List.set_cons_zero, List.set_cons_succ]
      have hown7 := OwnBlks.snoc (rb := w.heap.size + 3) (base := 0) (by omega) (bs := d.blocks.take k) (b := d.blocks.getD k []) (by rw [Hlen.out]; exact ho4) (by rw [Hlen.out]; exact hv4) hu4 (by rw [Hlen.out]; exact own7) hg7
      rw [← take_succ_getD [] d.blocks k (by have := Hn.out; omega)] at hown7
      have hd7 : Below (w.heap.size + 2) W w7 := hdD.trans ((he1.mono (by omega)).trans ((he4.mono (by omega)).trans (hb7.mono (by omega))))
      have b8_ := bD.below ((he1.mono (B' := w.heap.size + 3) (by omega)).trans ((he4.mono (by omega)).trans hb7)) (by omega)
      have HI7 := Lib.hid (HI.out.snoc (N' := w7.heap.size) (u := .slice A2 n1 c2) (by omega) (by have := hg7.size; have := hwD.size; omega) (fun g hg => by have := own_lt own1 g hg; have := hg7.size; have := hwD.size; omega))
      have n0 := b8_.cell 0 rfl
      have n1_ := b8_.cell 1 rfl
      have zn := b8_.free
      apply mixF 6 (by kernel_rfl) (by rfl) (by rfl)
      · (intro w' hx; go_simp <;> with_reducible rfl)
      simp only [Act.put, List.setIfInBounds_toArray, List.set_cons_zero, List.set_cons_succ]
      obtain ⟨A7, c7, rfl, _⟩ := own_shape own7
      refine mixLast 7 (by kernel_rfl) (by kernel_rfl) (by kernel_rfl) (by rfl) (by rfl) (fun K hK => ?_)
      have hK' := Lib.hid hK
      clear hK
      go_wp2
      refine hK'.out _ _ ?_
      clear hK' K n0 n1_ zn b7 bD
      refine NoPanic.normal ?_
      go_wp2
      go_roundw
      case rel => exact ⟨k + 1, _, by omega, by go_num, b8_.set 0 _, hown7.set b8_ (by decide) (by decide) (by omega) 0 _, ⟨_, own_setT own7 b8_ (by decide) 0 _, by rw [size_set]; exact HI7.out⟩, hd7.setCell (Nat.le_refl _) _⟩
      case measure => simp [intOf]; omega
    · have hkn : k = n := by omega
      subst hkn
      rw [List.take_of_length_le (by have := Hn.out; omega)] at hown
      obtain ⟨Av, cv, rfl, hsv⟩ := hown.shape
      obtain ⟨m0, m1⟩ := bpr.cells2
      have h0 := hd
      have b0 := b7
      have hown0 := hown
      generalize hvv : Value.slice Av d.blocks.length cv = vb at b0 hown0 ho'
      clear hvv hown b7
      have HI0 : Hid (∃ n vs, wr.ownsRow (w.heap.size + 3) 22 1 vb n vs ∧ Inc w.heap.size vs wr.heap.size) := ⟨_, vs', ho', hI⟩
      clear ho' hI
      go_wp2_with fail
      clear m0 m1 bpr bRr hd
      go_loopw [26] (fun i wr => ∃ (k : Nat) (v : Value), k ≤ m ∧ i = .int .i64 k ∧ Box wr (w.heap.size + 2) 46 #[vb, v] ∧ OwnBlks wr (w.heap.size + 3) 0 vb d.blocks ∧ OwnLats wr (w.heap.size + 3) 0 v (d.late.take k) ∧ (∃ n vs us, wr.ownsRow (w.heap.size + 3) 22 1 vb n vs ∧ wr.ownsRow (w.heap.size + 3) 60 2 v k (lcells us) ∧ us.length = k ∧ Inc w.heap.size (vs ++ us.map Prod.snd) wr.heap.size) ∧ Below (w.heap.size + 2) W wr) (fun i _ => m - (intOf i).toNat)
      case atStart =>
        obtain ⟨n0, vs0, hr0, hi0⟩ := HI0.out
        exact ⟨0, _, by omega, rfl, b0, hown0, OwnLats.nil _ _ _, ⟨n0, vs0, [], hr0, own_nil _ _ _ _, rfl, by simpa using hi0⟩, h0⟩
      case round =>
        obtain ⟨k, v, hk, rfl, b7, hown, hlat, ⟨nb, vsb, us, hrb, hru, hul, hI⟩, hd⟩ := hrel
        clear HI0
        have HI := Lib.hid hI
        clear hI
        have bRr := bR.below hd (by omega)
        have hzr := hd.size
        by_cases hlt : k < m
        · have i0 : (0 : Int) ≤ (k : Int) := by omega
          have i1 : (k : Int) < (m : Int) := by omega
          obtain ⟨b, o, x, A1, n1, c1, rfl, hb, ck, cd, Hx, hy1⟩ := h.late.at_ hlt
          rw [← Nat.add_assoc] at cd
          have ckr := (hd.cell (p := ⟨b, o + k * 2, none⟩) (show b < w.heap.size + 2 by omega)).trans ck
          have cdr := (hd.cell (p := ⟨b, o + k * 2 + 1, none⟩) (show b < w.heap.size + 2 by omega)).trans cd
          have hy1 := Sl.below hy1 (hd.mono (by omega))
          have hn1 : n1 ≤ 4096 := by have := Hk.out.write k; have := By.len hy1; omega
          obtain ⟨vs, he, ho, hv⟩ := hlat
          have hlen : (d.late.take k).length = k := by have := Hm.out; simp; omega
          rw [hlen] at ho hv he
          have hus := own_unique hru ho
          have hus : vs = us := (lcells_inj hus).symm
          subst hus
          clear hru hul
          have Hrb := Lib.hid hrb
          clear hrb
          obtain ⟨Av, cv, rfl, hsv⟩ := own_shape ho
          have Hlen := Lib.hid hlen
          clear hlen
          go_wp2_with fail
          obtain ⟨X, hX⟩ : ∃ X, X = wr.alloc (.cells #[.int .i64 x, .slice A1 n1 c1] 60) := ⟨_, rfl⟩
          rw [← hX]
          have b6 : Box X wr.heap.size 60 #[.int .i64 x, .slice A1 n1 c1] := by rw [hX]; exact Box.new _ _ _ rfl
          have heX : Ext wr X := by rw [hX]; exact ext_alloc _ _
          clear hX
          refine wp_region_mix (fun a b => Below (w.heap.size + 3) a b ∧ b.heap[wr.heap.size]? = a.heap[wr.heap.size]?) (fun _ => ⟨Below.refl _ _, rfl⟩) (fun _ _ _ h k => ⟨h.1.trans k.1, k.2.trans h.2⟩) 12 [0, 1, 2, 3, 4, 5, 7, 10] true rfl (by kernel_rfl) (by kernel_rfl) ?_
          obtain ⟨D, hD⟩ : ∃ D, D = X.drew := ⟨_, rfl⟩
          rw [← hD]
          have hwD : Ext wr D := by rw [hD]; exact heX.drew
          have b6 : Box D wr.heap.size 60 #[.int .i64 x, .slice A1 n1 c1] := by rw [hD]; exact b6
          clear hD heX
          have bD := b7.ext hwD
          have hoD := own_ext ho hwD
          have hdD : Below (w.heap.size + 2) W D := hd.trans (hwD.mono (by omega))
          have hyD := Sl.below hy1 (hwD.mono (by omega))
          have hbD := hown.ext hwD
          have hzD := hdD.size
          have hzX := b6.lt
          apply mixF 0 (by kernel_rfl) (by rfl) (by rfl)
          · (intro w' hx; go_simp <;> with_reducible rfl)
          simp only [Act.put, List.setIfInBounds_toArray, List.set_cons_zero, List.set_cons_succ]
          apply mixF 1 (by kernel_rfl) (by rfl) (by rfl)
          · (intro w' hx; have q := (bD.below hx.1 (by omega)).cell 1 rfl; go_simp <;> with_reducible rfl)
          simp only [Act.put, List.setIfInBounds_toArray, List.set_cons_zero, List.set_cons_succ]
          apply mixF 2 (by kernel_rfl) (by rfl) (by rfl)
          · (intro w' hx; go_simp <;> with_reducible rfl)
          simp only [Act.put, List.setIfInBounds_toArray, List.set_cons_zero, List.set_cons_succ]
          apply mixF 3 (by kernel_rfl) (by rfl) (by rfl)
          · (intro w' hx; have q := Box.cell (hx.2.trans b6) 0 rfl; go_simp <;> with_reducible rfl)
          simp only [Act.put, List.setIfInBounds_toArray, List.set_cons_zero, List.set_cons_succ]
          apply mixF 4 (by kernel_rfl) (by rfl) (by rfl)
          · (intro w' hx; go_simp <;> with_reducible rfl)
          simp only [Act.put, List.setIfInBounds_toArray, List.set_cons_zero, List.set_cons_succ]
          apply mixF 5 (by kernel_rfl) (by rfl) (by rfl)
          · (intro w' hx; have q := Box.cell (hx.2.trans b6) 1 rfl; go_simp <;> with_reducible rfl)
          simp only [Act.put, List.setIfInBounds_toArray, List.set_cons_zero, List.set_cons_succ]
          refine mixS 6 (by kernel_rfl) (by kernel_rfl) (by rfl) (by rfl) (fun K hK => ?_)
          go_wp2_with (go_at_call 111; refine (clone_w _ hyD (by omega) (by rw [blim_def]; omega)).mono ?_; rintro e w1 ⟨v1, rfl, own1, he1⟩; obtain ⟨A2, c2, rfl, hs1⟩ := own_shape own1)
          refine hK.out _ _ (⟨he1.mono (by omega), he1.block _ hzX⟩) ?_
          clear hK K
          try simp only [Act.put, List.setIfInBounds_toArray, List.set_cons_zero, List.set_cons_succ]
          have hz1 := he1.size
          apply mixF 7 (by kernel_rfl) (by rfl) (by rfl)
          · (intro w' hx; go_simp <;> with_reducible rfl)
          simp only [Act.put, List.setIfInBounds_toArray, List.set_cons_zero, List.set_cons_succ]
          refine mixS 8 (by kernel_rfl) (by kernel_rfl) (by rfl) (by rfl) (fun K hK => ?_)
          go_wp2
          refine hK.out _ _ ⟨(ext_alloc _ _).mono (by omega), (ext_alloc _ _).block _ (by omega)⟩ ?_
          clear hK K
          try simp only [Act.put, List.setIfInBounds_toArray, List.set_cons_zero, List.set_cons_succ]
          obtain ⟨w4, hw4⟩ : ∃ w4, w4 = w1.alloc (.cells #[.int .i64 x, .slice A2 n1 c2] 60) := ⟨_, rfl⟩
          rw [← hw4]
          have he4 : Ext w1 w4 := by rw [hw4]; exact ext_alloc _ _
          have hs4 : Sl w4 w4.heap.size 2 (some ⟨w1.heap.size, 0, none⟩) 1 1 [.int .i64 x, .slice A2 n1 c2] := by rw [hw4]; exact Sl.new _ _ _ _ 2 1 rfl (by unfold maxLen; omega) (by simp)
          have hz4 := he4.size
          clear hw4
          have ho4 := own_ext (own_ext hoD he1) he4
          have hb4 := (hbD.ext he1).ext he4
          have hv4 := fun i hi => (⟨(hv i hi).1, (((hv i hi).2.ext hwD).ext he1).ext he4⟩ : _ ∧ _)
          have hu4 : ByE w4 0 (.slice A2 n1 c2) (d.late.getD k (0, [])).2 := (ByE.of_own (own_more own1 (by omega))).ext he4
          refine mixS 9 (by kernel_rfl) (by kernel_rfl) (by rfl) (by rfl) (fun K hK => ?_)
          refine wp_app_wr (.tmp 31) (.tmp 38) rfl (w.heap.size + 3) (.slice Av k cv) k _ rfl ho4 _ _ 1 1 [.int .i64 x, .slice A2 n1 c2] rfl hs4 (by simp [Value.oneCell']) (by rw [lim_def]; omega) (by omega) ?_
          intro v7 w7 own7 hg7 hb7 hat7
          have hne : some wr.heap.size ≠ (Value.slice Av k cv).ownBlock := fun e0 => by
            have := (ho.lt _ e0.symm).2
            omega
          refine hK.out _ _ ⟨hb7, hg7.block _ (by omega) hne⟩ ?_
          clear hK K hat7
          try simp only [Act.put, List.setIfInBounds_toArray, List.set_cons_zero, List.set_cons_succ]
          have hlat7 := OwnLats.snoc (rb := w.heap.size + 3) (base := 0) (by omega) (ls := d.late.take k) (k := x) (b := (d.late.getD k (0, [])).2) (vs := vs) (by rw [Hlen.out]; exact he) (by rw [Hlen.out]; exact ho4) (by rw [Hlen.out]; exact hv4) hu4 (by rw [Hlen.out]; exact own7) hg7
          have hb9 := hb4.grown hg7 (fun g e0 => (row_kind ho4 (by decide) g e0).imp (fun h => by omega) id) (row_not ho4 _ (by decide))
          have e9 : (x, (d.late.getD k (0, [])).2) = d.late.getD k (0, []) := Prod.ext Hx.out rfl
          rw [e9, ← take_succ_getD (0, []) d.late k (by have := Hm.out; omega)] at hlat7
          have hd7 : Below (w.heap.size + 2) W w7 := hdD.trans ((he1.mono (by omega)).trans ((he4.mono (by omega)).trans (hb7.mono (by omega))))
          have b8_ := bD.below ((he1.mono (B' := w.heap.size + 3) (by omega)).trans ((he4.mono (by omega)).trans hb7)) (by omega)
          have HI7 := Lib.hid (HI.out.snoc (N' := w7.heap.size) (u := .slice A2 n1 c2) (by omega) (by have := hg7.size; have := hwD.size; omega) (fun g hg => by have := own_lt own1 g hg; have := hg7.size; have := hwD.size; omega))
          have Hrb7 := Lib.hid (own_grown (own_ext (own_ext (own_ext Hrb.out hwD) he1) he4) hg7 (row_not ho4 _ (by decide)))
          have n0 := b8_.cell 0 rfl
          have n1_ := b8_.cell 1 rfl
          have zn := b8_.free
          apply mixF 10 (by kernel_rfl) (by rfl) (by rfl)
          · (intro w' hx; go_simp <;> with_reducible rfl)
          simp only [Act.put, List.setIfInBounds_toArray, List.set_cons_zero, List.set_cons_succ]
          obtain ⟨A7, c7, rfl, _⟩ := own_shape own7
          refine mixLast 11 (by kernel_rfl) (by kernel_rfl) (by kernel_rfl) (by rfl) (by rfl) (fun K hK => ?_)
          have hK' := Lib.hid hK
          clear hK
          go_wp2
          refine hK'.out _ _ ?_
          clear hK' K n0 n1_ zn b7 bD
          refine NoPanic.normal ?_
          go_wp2
          go_roundw
          case rel => exact ⟨k + 1, _, by omega, by go_num, b8_.set 1 _, hb9.set b8_ (by decide) (by decide) (by omega) 1 _, hlat7.set b8_ (by decide) (by decide) (by omega) 1 _, ⟨_, _, vs ++ [(x, .slice A2 n1 c2)], own_setT Hrb7.out b8_ (by decide) 1 _, by rw [lcells_append]; exact own_setT own7 b8_ (by decide) 1 _, by simp [he], by rw [size_set, List.map_append, ← List.append_assoc]; exact HI7.out⟩, hd7.setCell (Nat.le_refl _) _⟩
          case measure => simp [intOf]; omega
        · have hkm : k = m := by omega
          subst hkm
          rw [List.take_of_length_le (by have := Hm.out; omega)] at hlat
          obtain ⟨Al, cl, rfl, _⟩ := hlat.shape
          obtain ⟨Ab, cb, rfl, _⟩ := hown.shape
          have n0 := b7.cell 0 rfl
          have n1 := b7.cell 1 rfl
          have r0 := bRr.cell 0 rfl
          have r1 := bRr.cell 1 rfl
          have zr := bRr.free
          go_wp2
          ((try simp only [Exit.inBlock, Exit.then]); refine bodyPost_ret (v := ?_) ?resultOf rfl ?_; case resultOf => (rw [results_cell1 rfl]; go_simp; rfl))
          have hdd := hwW.trans (hd.mono (by omega))
          refine ⟨_, rfl, ⟨_, _, rfl, ?_, ?_⟩, ⟨_, _, _, _, _, us, rfl, own_more (own_setT (own_setT hrb bRr (by decide) 0 _) (bRr.set 0 _) (by decide) 1 _) (Nat.zero_le _), own_more (own_setT (own_setT hru bRr (by decide) 0 _) (bRr.set 0 _) (by decide) 1 _) (Nat.zero_le _), by rw [size_set, size_set]; exact HI.out⟩, (hdd.setCell (by simp) _).setCell (by simp) _⟩
          · exact ((hown.set bRr (by decide) (by decide) (by omega) 0 _).set (bRr.set 0 _) (by decide) (by decide) (by omega) 1 _).more (by omega)
          · exact ((hlat.set bRr (by decide) (by decide) (by omega) 0 _).set (bRr.set 0 _) (by decide) (by decide) (by omega) 1 _).more (by omega)

end Go.Proofs.Ytnganglmpcbcbaa
