/- The statement DiskKeep: the walk of the law. -/
import Derived.Test.YtnganglmpcbcbaaDiskPut
namespace Go.Proofs.Ytnganglmpcbcbaa
open Go Go.RowKit

theorem sameBlocks_v {T T' : List TypeId} {w : World} {base base' : Nat} {v v' : Value} {l l' : List (List UInt8)} (h : Row eBlk T w base v l) (h' : Row eBlk T' w base' v' l') :
    Calls Try.prog 61 #[v, v'] w fun e w' => e = .returned (.bool (l == l')) ∧ Ext w w' := by
  obtain ⟨A, n, c, rfl, _⟩ := h.form
  obtain ⟨A', n', c', rfl, _⟩ := h'.form
  exact sameBlocks_w w h.blks h'.blks (Nat.le_refl _) (Nat.le_refl _)
theorem sameBlocks_self {T T' : List TypeId} {w : World} {base base' : Nat} {v v' : Value} {l : List (List UInt8)} (h : Row eBlk T w base v l) (h' : Row eBlk T' w base' v' l) :
    Calls Try.prog 61 #[v, v'] w fun e w' => e = .returned (.bool true) ∧ Ext w w' :=
  (sameBlocks_v h h').mono fun _ _ ⟨he, hx⟩ => ⟨by rw [he]; congr 2; simp, hx⟩
/-- Is a block one or the other: so far. -/
def oneTo (d : Dsk) (b : List UInt8) (a c : Nat) : Bool := (b == d.blocks.getD a []) || (d.late.take c).any fun p => decide (p.1 = (a : Int)) && (p.2 == b)
theorem oneTo_succ (d : Dsk) (b : List UInt8) (a c : Nat) (h : c < d.late.length) : oneTo d b a (c + 1) = (oneTo d b a c || (decide ((d.late.getD c (0, [])).1 = (a : Int)) && ((d.late.getD c (0, [])).2 == b))) := by
  unfold oneTo
  rw [take_succ_getD' (0, []) d.late c h, List.any_append, Bool.or_assoc]
  simp
theorem oneTo_all {d : Dsk} (hl : LateIn d) (bits : Int) (a : Nat) : oneTo d ((dKeep d bits).blocks.getD a []) a d.late.length = true := by
  unfold oneTo
  rw [List.take_length]
  rcases kTo_some d.late bits d.blocks hl a d.late.length (Nat.le_refl _) with e | ⟨i, hi, e1, e2⟩
  · have : ((dKeep d bits).blocks.getD a [] == d.blocks.getD a []) = true := by
      show ((kTo d.late bits d.blocks d.late.length).getD a [] == _) = true
      rw [e]
      simp
    rw [this]
    rfl
  · have : (d.late.any fun p => decide (p.1 = (a : Int)) && (p.2 == (dKeep d bits).blocks.getD a [])) = true := by
      rw [List.any_eq_true]
      refine ⟨d.late[i], List.getElem_mem hi, ?_⟩
      rw [List.getD_eq_getElem?_getD, List.getElem?_eq_getElem hi] at e1 e2
      simp only [Option.getD_some] at e1 e2
      simp only [Bool.and_eq_true, decide_eq_true_eq, beq_iff_eq]
      exact ⟨e1, e2⟩
    rw [this]
    simp
theorem oneTo_zero (d : Dsk) (b : List UInt8) (a : Nat) : oneTo d b a 0 = (b == d.blocks.getD a []) := by unfold oneTo; simp

set_option maxRecDepth 100000 in
set_option maxHeartbeats 4000000 in
theorem diskKeep_law (w : World) {v : Value} {d : Dsk} {k : Int} (h : DskV tD w w.heap.size v d) :
    Calls Try.prog 10 #[v, .int .i64 k] w fun e w' => e = .returned (.bool true) ∧ Ext w w' := by
  obtain ⟨A, n, c, E, m, e, rfl, HN, HM, hbl, hla, _, _⟩ := h.form
  go_enter Try.func10, Try.ntmps10
  go_wp2_with fail
  obtain ⟨W, hW⟩ : ∃ W, W = w.alloc (.cells #[.slice A n c, .slice E m e] 46) := ⟨_, rfl⟩
  rw [← hW]
  have b2 : Box W w.heap.size 46 #[.slice A n c, .slice E m e] := by rw [hW]; exact Box.new w _ _ rfl
  have hwW : Ext w W := by rw [hW]; exact ext_alloc _ _
  clear hW
  refine (alive3_w _).mono ?_
  rintro e1 w1 ⟨rfl, he1⟩
  have hx := ext_trans hwW he1
  have b2 := b2.ext he1
  clear he1 hwW
  obtain ⟨x0, x1⟩ := b2.cells2
  go_wp2_with fail
  refine (rightDisk_v (h.ext hx)).mono ?_
  rintro e4 w4 ⟨rfl, he4⟩
  have hx := ext_trans hx he4
  have b2 := b2.ext he4
  clear x0 x1 he4
  cases hr : dRight d with
  | false =>
    go_wp2
    go_ret
    exact ⟨rfl, hx⟩
  | true =>
    have HR := Lib.hid (dRight_ok hr)
    have HA := Lib.hid (dKeep_all d (by have := (dRight_even hr).2.1; omega))
    have hn12 : n = 12 := HN.out.trans (dRight_even hr).1
    have hm40 : m ≤ 40 := by have := (dRight_even hr).2.1; have := HM.out; omega
    subst hn12
    clear hr
    go_upto_region 5 with (fail)
    go_cut [5, 6] from 17 to 21 (fun t5 t6 wr => DBox wr t5 (dKeep d 0) ∧ DBox wr t6 (dKeep d k) ∧ Ext w4 wr)
    case first =>
      refine wp_region_below w4.heap.size 9 [0, 2, 3] true rfl (by kernel_rfl) (by kernel_rfl) ?_
      have hx2 : Ext w4 w4.drew := (Below.refl _ _).drew
      have hz : w4.heap.size ≤ w4.drew.heap.size := hx2.size
      have b2 := b2.ext hx2
      have hx := ext_trans hx hx2
      have hg2 : w.heap.size < w4.heap.size := b2.lt
      generalize w4.drew = D at hz hx hx2 b2 ⊢
      apply mixF 0 (by kernel_rfl) (by rfl) (by rfl)
      · (intro w' hx; obtain ⟨x0, x1⟩ := (b2.below hx hg2).cells2; go_simp <;> with_reducible rfl)
      simp only [Act.put, List.setIfInBounds_toArray, List.set_cons_zero, List.set_cons_succ]
      apply mixF 2 (by kernel_rfl) (by rfl) (by rfl)
      · (intro w' hx; obtain ⟨x0, x1⟩ := (b2.below hx hg2).cells2; go_simp <;> with_reducible rfl)
      simp only [Act.put, List.setIfInBounds_toArray, List.set_cons_zero, List.set_cons_succ]
      apply mixF 3 (by kernel_rfl) (by rfl) (by rfl)
      · (intro w' hx; obtain ⟨x0, x1⟩ := (b2.below hx hg2).cells2; go_simp <;> with_reducible rfl)
      simp only [Act.put, List.setIfInBounds_toArray, List.set_cons_zero, List.set_cons_succ]
      clear b2
      refine mixS3 1 5 6 (by kernel_rfl) (by kernel_rfl) (by rfl) (by rfl) (by rfl) (by rfl) (by rfl) (by rfl) (fun K hK => ?_) (fun K hK => ?_) (fun K hK => ?_)
      · skip
        go_wp2_with (go_at_call 54; refine (dskKeep_v (k := 0) (h.ext hx) HR.out.1 HR.out.2).mono ?_; rintro e wn ⟨v5, rfl, o5, he⟩)
        refine hK.out _ _ (he.mono hz) ?_
        clear hK K
        try simp only [Act.put, List.setIfInBounds_toArray, List.set_cons_zero, List.set_cons_succ]
        have hz := Nat.le_trans hz he.size
        have hx2 := ext_trans hx2 he
        have hx := ext_trans hx he
        try (have b5 := b5.ext he)
        try (have b6 := b6.ext he)
        try (have d5 := d5.ext he)
        try (have d6 := d6.ext he)
        clear he
        have d5 := o5.v
        clear o5
        obtain ⟨A5, n5, c5, E5, m5, e5, rfl⟩ := d5.parts
        refine mixS3 4 5 6 (by kernel_rfl) (by kernel_rfl) (by rfl) (by rfl) (by rfl) (by rfl) (by rfl) (by rfl) (fun K hK => ?_) (fun K hK => ?_) (fun K hK => ?_)
        · skip
          go_wp2_with (go_at_call 54; refine (dskKeep_v (k := k) (h.ext hx) HR.out.1 HR.out.2).mono ?_; rintro e wn ⟨v6, rfl, o6, he⟩)
          refine hK.out _ _ (he.mono hz) ?_
          clear hK K
          try simp only [Act.put, List.setIfInBounds_toArray, List.set_cons_zero, List.set_cons_succ]
          have hz := Nat.le_trans hz he.size
          have hx2 := ext_trans hx2 he
          have hx := ext_trans hx he
          try (have b5 := b5.ext he)
          try (have b6 := b6.ext he)
          try (have d5 := d5.ext he)
          try (have d6 := d6.ext he)
          clear he
          have d6 := o6.v
          clear o6
          obtain ⟨A6, n6, c6, E6, m6, e6, rfl⟩ := d6.parts
          refine mixS2 5 6 (by kernel_rfl) (by kernel_rfl) (by rfl) (by rfl) (by rfl) (by rfl) (fun K hK => ?_) (fun K hK => ?_)
          · skip
            go_wp2
            refine hK.out _ _ ((ext_alloc _ _).mono hz) ?_
            clear hK K
            try simp only [Act.put, List.setIfInBounds_toArray, List.set_cons_zero, List.set_cons_succ]
            generalize hwn : World.alloc _ (Obj.cells #[.slice none 0 0, .slice none 0 0] 46) = wn
            have he := alloc_step hwn
            have h5 := hz
            try (have h56 := Nat.ne_of_lt b6.lt)
            have hz := Nat.le_trans hz he.size
            have hx2 := ext_trans hx2 he
            have hx := ext_trans hx he
            try (have b5 := b5.ext he)
            try (have b6 := b6.ext he)
            try (have d5 := d5.ext he)
            try (have d6 := d6.ext he)
            clear he
            have b5 := box_step hwn
            clear hwn
            refine mixS 6 (by kernel_rfl) (by kernel_rfl) (by rfl) (by rfl) (fun K hK => ?_)
            go_wp2
            refine hK.out _ _ ((ext_alloc _ _).mono hz) ?_
            clear hK K
            try simp only [Act.put, List.setIfInBounds_toArray, List.set_cons_zero, List.set_cons_succ]
            generalize hwn : World.alloc _ (Obj.cells #[.slice none 0 0, .slice none 0 0] 46) = wn
            have he := alloc_step hwn
            have h6 := hz
            try (have h56 := (Nat.ne_of_lt b5.lt).symm)
            have hz := Nat.le_trans hz he.size
            have hx2 := ext_trans hx2 he
            have hx := ext_trans hx he
            try (have b5 := b5.ext he)
            try (have b6 := b6.ext he)
            try (have d5 := d5.ext he)
            try (have d6 := d6.ext he)
            clear he
            have b6 := box_step hwn
            clear hwn
            refine mixS 7 (by kernel_rfl) (by kernel_rfl) (by rfl) (by rfl) (fun K hK => ?_)
            obtain ⟨x0, x1⟩ := b5.cells2
            have xz := b5.free
            go_wp2
            refine hK.out _ _ (((Below.refl _ _).setCell h5 _).setCell h5 _) ?_
            clear hK K x0 x1 xz
            try simp only [Act.put, List.setIfInBounds_toArray, List.set_cons_zero, List.set_cons_succ]
            generalize hwn : World.setCell (World.setCell _ _ _) _ _ = wn
            have d5 := dsk_step b5 d5 hwn
            have d6 := dsk_step b5 d6 hwn
            have b6 := oth_step b6 h56 hwn
            have b5 := set_step b5 hwn
            have hx2 : Below w4.heap.size w4 wn := by rw [← hwn]; exact (hx2.setCell h5 _).setCell h5 _
            clear hwn hx
            refine mixLast 8 (by kernel_rfl) (by kernel_rfl) (by kernel_rfl) (by rfl) (by rfl) (fun K hK => ?_)
            have hK' := Lib.hid hK
            clear hK
            obtain ⟨x0, x1⟩ := b6.cells2
            have xz := b6.free
            go_wp2
            refine hK'.out _ _ ?_
            clear hK' K x0 x1 xz
            generalize hwn : World.setCell (World.setCell _ _ _) _ _ = wn
            have d5 := dsk_step b6 d5 hwn
            have d6 := dsk_step b6 d6 hwn
            have b5 := oth_step b5 h56.symm hwn
            have b6 := set_step b6 hwn
            have hx2 : Below w4.heap.size w4 wn := by rw [← hwn]; exact (hx2.setCell h6 _).setCell h6 _
            clear hwn
            refine NoPanic.normal ?_
            go_wp2_with fail
            go_meet
            exact ⟨⟨_, _, _, _, _, _, _, rfl, b5, d5⟩, ⟨_, _, _, _, _, _, _, rfl, b6, d6⟩, hx2⟩
          · skip
            go_wp2
            refine hK.out _ _ ((ext_alloc _ _).mono hz) ?_
            clear hK K
            try simp only [Act.put, List.setIfInBounds_toArray, List.set_cons_zero, List.set_cons_succ]
            generalize hwn : World.alloc _ (Obj.cells #[.slice none 0 0, .slice none 0 0] 46) = wn
            have he := alloc_step hwn
            have h6 := hz
            try (have h56 := (Nat.ne_of_lt b5.lt).symm)
            have hz := Nat.le_trans hz he.size
            have hx2 := ext_trans hx2 he
            have hx := ext_trans hx he
            try (have b5 := b5.ext he)
            try (have b6 := b6.ext he)
            try (have d5 := d5.ext he)
            try (have d6 := d6.ext he)
            clear he
            have b6 := box_step hwn
            clear hwn
            refine mixS 5 (by kernel_rfl) (by kernel_rfl) (by rfl) (by rfl) (fun K hK => ?_)
            go_wp2
            refine hK.out _ _ ((ext_alloc _ _).mono hz) ?_
            clear hK K
            try simp only [Act.put, List.setIfInBounds_toArray, List.set_cons_zero, List.set_cons_succ]
            generalize hwn : World.alloc _ (Obj.cells #[.slice none 0 0, .slice none 0 0] 46) = wn
            have he := alloc_step hwn
            have h5 := hz
            try (have h56 := Nat.ne_of_lt b6.lt)
            have hz := Nat.le_trans hz he.size
            have hx2 := ext_trans hx2 he
            have hx := ext_trans hx he
            try (have b5 := b5.ext he)
            try (have b6 := b6.ext he)
            try (have d5 := d5.ext he)
            try (have d6 := d6.ext he)
            clear he
            have b5 := box_step hwn
            clear hwn
            refine mixS 7 (by kernel_rfl) (by kernel_rfl) (by rfl) (by rfl) (fun K hK => ?_)
            obtain ⟨x0, x1⟩ := b5.cells2
            have xz := b5.free
            go_wp2
            refine hK.out _ _ (((Below.refl _ _).setCell h5 _).setCell h5 _) ?_
            clear hK K x0 x1 xz
            try simp only [Act.put, List.setIfInBounds_toArray, List.set_cons_zero, List.set_cons_succ]
            generalize hwn : World.setCell (World.setCell _ _ _) _ _ = wn
            have d5 := dsk_step b5 d5 hwn
            have d6 := dsk_step b5 d6 hwn
            have b6 := oth_step b6 h56 hwn
            have b5 := set_step b5 hwn
            have hx2 : Below w4.heap.size w4 wn := by rw [← hwn]; exact (hx2.setCell h5 _).setCell h5 _
            clear hwn hx
            refine mixLast 8 (by kernel_rfl) (by kernel_rfl) (by kernel_rfl) (by rfl) (by rfl) (fun K hK => ?_)
            have hK' := Lib.hid hK
            clear hK
            obtain ⟨x0, x1⟩ := b6.cells2
            have xz := b6.free
            go_wp2
            refine hK'.out _ _ ?_
            clear hK' K x0 x1 xz
            generalize hwn : World.setCell (World.setCell _ _ _) _ _ = wn
            have d5 := dsk_step b6 d5 hwn
            have d6 := dsk_step b6 d6 hwn
            have b5 := oth_step b5 h56.symm hwn
            have b6 := set_step b6 hwn
            have hx2 : Below w4.heap.size w4 wn := by rw [← hwn]; exact (hx2.setCell h6 _).setCell h6 _
            clear hwn
            refine NoPanic.normal ?_
            go_wp2_with fail
            go_meet
            exact ⟨⟨_, _, _, _, _, _, _, rfl, b5, d5⟩, ⟨_, _, _, _, _, _, _, rfl, b6, d6⟩, hx2⟩
        · skip
          go_wp2
          refine hK.out _ _ ((ext_alloc _ _).mono hz) ?_
          clear hK K
          try simp only [Act.put, List.setIfInBounds_toArray, List.set_cons_zero, List.set_cons_succ]
          generalize hwn : World.alloc _ (Obj.cells #[.slice none 0 0, .slice none 0 0] 46) = wn
          have he := alloc_step hwn
          have h5 := hz
          try (have h56 := Nat.ne_of_lt b6.lt)
          have hz := Nat.le_trans hz he.size
          have hx2 := ext_trans hx2 he
          have hx := ext_trans hx he
          try (have b5 := b5.ext he)
          try (have b6 := b6.ext he)
          try (have d5 := d5.ext he)
          try (have d6 := d6.ext he)
          clear he
          have b5 := box_step hwn
          clear hwn
          refine mixS2 4 6 (by kernel_rfl) (by kernel_rfl) (by rfl) (by rfl) (by rfl) (by rfl) (fun K hK => ?_) (fun K hK => ?_)
          · skip
            go_wp2_with (go_at_call 54; refine (dskKeep_v (k := k) (h.ext hx) HR.out.1 HR.out.2).mono ?_; rintro e wn ⟨v6, rfl, o6, he⟩)
            refine hK.out _ _ (he.mono hz) ?_
            clear hK K
            try simp only [Act.put, List.setIfInBounds_toArray, List.set_cons_zero, List.set_cons_succ]
            have hz := Nat.le_trans hz he.size
            have hx2 := ext_trans hx2 he
            have hx := ext_trans hx he
            try (have b5 := b5.ext he)
            try (have b6 := b6.ext he)
            try (have d5 := d5.ext he)
            try (have d6 := d6.ext he)
            clear he
            have d6 := o6.v
            clear o6
            obtain ⟨A6, n6, c6, E6, m6, e6, rfl⟩ := d6.parts
            refine mixS 6 (by kernel_rfl) (by kernel_rfl) (by rfl) (by rfl) (fun K hK => ?_)
            go_wp2
            refine hK.out _ _ ((ext_alloc _ _).mono hz) ?_
            clear hK K
            try simp only [Act.put, List.setIfInBounds_toArray, List.set_cons_zero, List.set_cons_succ]
            generalize hwn : World.alloc _ (Obj.cells #[.slice none 0 0, .slice none 0 0] 46) = wn
            have he := alloc_step hwn
            have h6 := hz
            try (have h56 := (Nat.ne_of_lt b5.lt).symm)
            have hz := Nat.le_trans hz he.size
            have hx2 := ext_trans hx2 he
            have hx := ext_trans hx he
            try (have b5 := b5.ext he)
            try (have b6 := b6.ext he)
            try (have d5 := d5.ext he)
            try (have d6 := d6.ext he)
            clear he
            have b6 := box_step hwn
            clear hwn
            refine mixS 7 (by kernel_rfl) (by kernel_rfl) (by rfl) (by rfl) (fun K hK => ?_)
            obtain ⟨x0, x1⟩ := b5.cells2
            have xz := b5.free
            go_wp2
            refine hK.out _ _ (((Below.refl _ _).setCell h5 _).setCell h5 _) ?_
            clear hK K x0 x1 xz
            try simp only [Act.put, List.setIfInBounds_toArray, List.set_cons_zero, List.set_cons_succ]
            generalize hwn : World.setCell (World.setCell _ _ _) _ _ = wn
            have d5 := dsk_step b5 d5 hwn
            have d6 := dsk_step b5 d6 hwn
            have b6 := oth_step b6 h56 hwn
            have b5 := set_step b5 hwn
            have hx2 : Below w4.heap.size w4 wn := by rw [← hwn]; exact (hx2.setCell h5 _).setCell h5 _
            clear hwn hx
            refine mixLast 8 (by kernel_rfl) (by kernel_rfl) (by kernel_rfl) (by rfl) (by rfl) (fun K hK => ?_)
            have hK' := Lib.hid hK
            clear hK
            obtain ⟨x0, x1⟩ := b6.cells2
            have xz := b6.free
            go_wp2
            refine hK'.out _ _ ?_
            clear hK' K x0 x1 xz
            generalize hwn : World.setCell (World.setCell _ _ _) _ _ = wn
            have d5 := dsk_step b6 d5 hwn
            have d6 := dsk_step b6 d6 hwn
            have b5 := oth_step b5 h56.symm hwn
            have b6 := set_step b6 hwn
            have hx2 : Below w4.heap.size w4 wn := by rw [← hwn]; exact (hx2.setCell h6 _).setCell h6 _
            clear hwn
            refine NoPanic.normal ?_
            go_wp2_with fail
            go_meet
            exact ⟨⟨_, _, _, _, _, _, _, rfl, b5, d5⟩, ⟨_, _, _, _, _, _, _, rfl, b6, d6⟩, hx2⟩
          · skip
            go_wp2
            refine hK.out _ _ ((ext_alloc _ _).mono hz) ?_
            clear hK K
            try simp only [Act.put, List.setIfInBounds_toArray, List.set_cons_zero, List.set_cons_succ]
            generalize hwn : World.alloc _ (Obj.cells #[.slice none 0 0, .slice none 0 0] 46) = wn
            have he := alloc_step hwn
            have h6 := hz
            try (have h56 := (Nat.ne_of_lt b5.lt).symm)
            have hz := Nat.le_trans hz he.size
            have hx2 := ext_trans hx2 he
            have hx := ext_trans hx he
            try (have b5 := b5.ext he)
            try (have b6 := b6.ext he)
            try (have d5 := d5.ext he)
            try (have d6 := d6.ext he)
            clear he
            have b6 := box_step hwn
            clear hwn
            refine mixS 4 (by kernel_rfl) (by kernel_rfl) (by rfl) (by rfl) (fun K hK => ?_)
            go_wp2_with (go_at_call 54; refine (dskKeep_v (k := k) (h.ext hx) HR.out.1 HR.out.2).mono ?_; rintro e wn ⟨v6, rfl, o6, he⟩)
            refine hK.out _ _ (he.mono hz) ?_
            clear hK K
            try simp only [Act.put, List.setIfInBounds_toArray, List.set_cons_zero, List.set_cons_succ]
            have hz := Nat.le_trans hz he.size
            have hx2 := ext_trans hx2 he
            have hx := ext_trans hx he
            try (have b5 := b5.ext he)
            try (have b6 := b6.ext he)
            try (have d5 := d5.ext he)
            try (have d6 := d6.ext he)
            clear he
            have d6 := o6.v
            clear o6
            obtain ⟨A6, n6, c6, E6, m6, e6, rfl⟩ := d6.parts
            refine mixS 7 (by kernel_rfl) (by kernel_rfl) (by rfl) (by rfl) (fun K hK => ?_)
            obtain ⟨x0, x1⟩ := b5.cells2
            have xz := b5.free
            go_wp2
            refine hK.out _ _ (((Below.refl _ _).setCell h5 _).setCell h5 _) ?_
            clear hK K x0 x1 xz
            try simp only [Act.put, List.setIfInBounds_toArray, List.set_cons_zero, List.set_cons_succ]
            generalize hwn : World.setCell (World.setCell _ _ _) _ _ = wn
            have d5 := dsk_step b5 d5 hwn
            have d6 := dsk_step b5 d6 hwn
            have b6 := oth_step b6 h56 hwn
            have b5 := set_step b5 hwn
            have hx2 : Below w4.heap.size w4 wn := by rw [← hwn]; exact (hx2.setCell h5 _).setCell h5 _
            clear hwn hx
            refine mixLast 8 (by kernel_rfl) (by kernel_rfl) (by kernel_rfl) (by rfl) (by rfl) (fun K hK => ?_)
            have hK' := Lib.hid hK
            clear hK
            obtain ⟨x0, x1⟩ := b6.cells2
            have xz := b6.free
            go_wp2
            refine hK'.out _ _ ?_
            clear hK' K x0 x1 xz
            generalize hwn : World.setCell (World.setCell _ _ _) _ _ = wn
            have d5 := dsk_step b6 d5 hwn
            have d6 := dsk_step b6 d6 hwn
            have b5 := oth_step b5 h56.symm hwn
            have b6 := set_step b6 hwn
            have hx2 : Below w4.heap.size w4 wn := by rw [← hwn]; exact (hx2.setCell h6 _).setCell h6 _
            clear hwn
            refine NoPanic.normal ?_
            go_wp2_with fail
            go_meet
            exact ⟨⟨_, _, _, _, _, _, _, rfl, b5, d5⟩, ⟨_, _, _, _, _, _, _, rfl, b6, d6⟩, hx2⟩
        · skip
          go_wp2
          refine hK.out _ _ ((ext_alloc _ _).mono hz) ?_
          clear hK K
          try simp only [Act.put, List.setIfInBounds_toArray, List.set_cons_zero, List.set_cons_succ]
          generalize hwn : World.alloc _ (Obj.cells #[.slice none 0 0, .slice none 0 0] 46) = wn
          have he := alloc_step hwn
          have h6 := hz
          try (have h56 := (Nat.ne_of_lt b5.lt).symm)
          have hz := Nat.le_trans hz he.size
          have hx2 := ext_trans hx2 he
          have hx := ext_trans hx he
          try (have b5 := b5.ext he)
          try (have b6 := b6.ext he)
          try (have d5 := d5.ext he)
          try (have d6 := d6.ext he)
          clear he
          have b6 := box_step hwn
          clear hwn
          refine mixS2 4 5 (by kernel_rfl) (by kernel_rfl) (by rfl) (by rfl) (by rfl) (by rfl) (fun K hK => ?_) (fun K hK => ?_)
          · skip
            go_wp2_with (go_at_call 54; refine (dskKeep_v (k := k) (h.ext hx) HR.out.1 HR.out.2).mono ?_; rintro e wn ⟨v6, rfl, o6, he⟩)
            refine hK.out _ _ (he.mono hz) ?_
            clear hK K
            try simp only [Act.put, List.setIfInBounds_toArray, List.set_cons_zero, List.set_cons_succ]
            have hz := Nat.le_trans hz he.size
            have hx2 := ext_trans hx2 he
            have hx := ext_trans hx he
            try (have b5 := b5.ext he)
            try (have b6 := b6.ext he)
            try (have d5 := d5.ext he)
            try (have d6 := d6.ext he)
            clear he
            have d6 := o6.v
            clear o6
            obtain ⟨A6, n6, c6, E6, m6, e6, rfl⟩ := d6.parts
            refine mixS 5 (by kernel_rfl) (by kernel_rfl) (by rfl) (by rfl) (fun K hK => ?_)
            go_wp2
            refine hK.out _ _ ((ext_alloc _ _).mono hz) ?_
            clear hK K
            try simp only [Act.put, List.setIfInBounds_toArray, List.set_cons_zero, List.set_cons_succ]
            generalize hwn : World.alloc _ (Obj.cells #[.slice none 0 0, .slice none 0 0] 46) = wn
            have he := alloc_step hwn
            have h5 := hz
            try (have h56 := Nat.ne_of_lt b6.lt)
            have hz := Nat.le_trans hz he.size
            have hx2 := ext_trans hx2 he
            have hx := ext_trans hx he
            try (have b5 := b5.ext he)
            try (have b6 := b6.ext he)
            try (have d5 := d5.ext he)
            try (have d6 := d6.ext he)
            clear he
            have b5 := box_step hwn
            clear hwn
            refine mixS 7 (by kernel_rfl) (by kernel_rfl) (by rfl) (by rfl) (fun K hK => ?_)
            obtain ⟨x0, x1⟩ := b5.cells2
            have xz := b5.free
            go_wp2
            refine hK.out _ _ (((Below.refl _ _).setCell h5 _).setCell h5 _) ?_
            clear hK K x0 x1 xz
            try simp only [Act.put, List.setIfInBounds_toArray, List.set_cons_zero, List.set_cons_succ]
            generalize hwn : World.setCell (World.setCell _ _ _) _ _ = wn
            have d5 := dsk_step b5 d5 hwn
            have d6 := dsk_step b5 d6 hwn
            have b6 := oth_step b6 h56 hwn
            have b5 := set_step b5 hwn
            have hx2 : Below w4.heap.size w4 wn := by rw [← hwn]; exact (hx2.setCell h5 _).setCell h5 _
            clear hwn hx
            refine mixLast 8 (by kernel_rfl) (by kernel_rfl) (by kernel_rfl) (by rfl) (by rfl) (fun K hK => ?_)
            have hK' := Lib.hid hK
            clear hK
            obtain ⟨x0, x1⟩ := b6.cells2
            have xz := b6.free
            go_wp2
            refine hK'.out _ _ ?_
            clear hK' K x0 x1 xz
            generalize hwn : World.setCell (World.setCell _ _ _) _ _ = wn
            have d5 := dsk_step b6 d5 hwn
            have d6 := dsk_step b6 d6 hwn
            have b5 := oth_step b5 h56.symm hwn
            have b6 := set_step b6 hwn
            have hx2 : Below w4.heap.size w4 wn := by rw [← hwn]; exact (hx2.setCell h6 _).setCell h6 _
            clear hwn
            refine NoPanic.normal ?_
            go_wp2_with fail
            go_meet
            exact ⟨⟨_, _, _, _, _, _, _, rfl, b5, d5⟩, ⟨_, _, _, _, _, _, _, rfl, b6, d6⟩, hx2⟩
          · skip
            go_wp2
            refine hK.out _ _ ((ext_alloc _ _).mono hz) ?_
            clear hK K
            try simp only [Act.put, List.setIfInBounds_toArray, List.set_cons_zero, List.set_cons_succ]
            generalize hwn : World.alloc _ (Obj.cells #[.slice none 0 0, .slice none 0 0] 46) = wn
            have he := alloc_step hwn
            have h5 := hz
            try (have h56 := Nat.ne_of_lt b6.lt)
            have hz := Nat.le_trans hz he.size
            have hx2 := ext_trans hx2 he
            have hx := ext_trans hx he
            try (have b5 := b5.ext he)
            try (have b6 := b6.ext he)
            try (have d5 := d5.ext he)
            try (have d6 := d6.ext he)
            clear he
            have b5 := box_step hwn
            clear hwn
            refine mixS 4 (by kernel_rfl) (by kernel_rfl) (by rfl) (by rfl) (fun K hK => ?_)
            go_wp2_with (go_at_call 54; refine (dskKeep_v (k := k) (h.ext hx) HR.out.1 HR.out.2).mono ?_; rintro e wn ⟨v6, rfl, o6, he⟩)
            refine hK.out _ _ (he.mono hz) ?_
            clear hK K
            try simp only [Act.put, List.setIfInBounds_toArray, List.set_cons_zero, List.set_cons_succ]
            have hz := Nat.le_trans hz he.size
            have hx2 := ext_trans hx2 he
            have hx := ext_trans hx he
            try (have b5 := b5.ext he)
            try (have b6 := b6.ext he)
            try (have d5 := d5.ext he)
            try (have d6 := d6.ext he)
            clear he
            have d6 := o6.v
            clear o6
            obtain ⟨A6, n6, c6, E6, m6, e6, rfl⟩ := d6.parts
            refine mixS 7 (by kernel_rfl) (by kernel_rfl) (by rfl) (by rfl) (fun K hK => ?_)
            obtain ⟨x0, x1⟩ := b5.cells2
            have xz := b5.free
            go_wp2
            refine hK.out _ _ (((Below.refl _ _).setCell h5 _).setCell h5 _) ?_
            clear hK K x0 x1 xz
            try simp only [Act.put, List.setIfInBounds_toArray, List.set_cons_zero, List.set_cons_succ]
            generalize hwn : World.setCell (World.setCell _ _ _) _ _ = wn
            have d5 := dsk_step b5 d5 hwn
            have d6 := dsk_step b5 d6 hwn
            have b6 := oth_step b6 h56 hwn
            have b5 := set_step b5 hwn
            have hx2 : Below w4.heap.size w4 wn := by rw [← hwn]; exact (hx2.setCell h5 _).setCell h5 _
            clear hwn hx
            refine mixLast 8 (by kernel_rfl) (by kernel_rfl) (by kernel_rfl) (by rfl) (by rfl) (fun K hK => ?_)
            have hK' := Lib.hid hK
            clear hK
            obtain ⟨x0, x1⟩ := b6.cells2
            have xz := b6.free
            go_wp2
            refine hK'.out _ _ ?_
            clear hK' K x0 x1 xz
            generalize hwn : World.setCell (World.setCell _ _ _) _ _ = wn
            have d5 := dsk_step b6 d5 hwn
            have d6 := dsk_step b6 d6 hwn
            have b5 := oth_step b5 h56.symm hwn
            have b6 := set_step b6 hwn
            have hx2 : Below w4.heap.size w4 wn := by rw [← hwn]; exact (hx2.setCell h6 _).setCell h6 _
            clear hwn
            refine NoPanic.normal ?_
            go_wp2_with fail
            go_meet
            exact ⟨⟨_, _, _, _, _, _, _, rfl, b5, d5⟩, ⟨_, _, _, _, _, _, _, rfl, b6, d6⟩, hx2⟩
      · skip
        go_wp2
        refine hK.out _ _ ((ext_alloc _ _).mono hz) ?_
        clear hK K
        try simp only [Act.put, List.setIfInBounds_toArray, List.set_cons_zero, List.set_cons_succ]
        generalize hwn : World.alloc _ (Obj.cells #[.slice none 0 0, .slice none 0 0] 46) = wn
        have he := alloc_step hwn
        have h5 := hz
        try (have h56 := Nat.ne_of_lt b6.lt)
        have hz := Nat.le_trans hz he.size
        have hx2 := ext_trans hx2 he
        have hx := ext_trans hx he
        try (have b5 := b5.ext he)
        try (have b6 := b6.ext he)
        try (have d5 := d5.ext he)
        try (have d6 := d6.ext he)
        clear he
        have b5 := box_step hwn
        clear hwn
        refine mixS2 1 6 (by kernel_rfl) (by kernel_rfl) (by rfl) (by rfl) (by rfl) (by rfl) (fun K hK => ?_) (fun K hK => ?_)
        · skip
          go_wp2_with (go_at_call 54; refine (dskKeep_v (k := 0) (h.ext hx) HR.out.1 HR.out.2).mono ?_; rintro e wn ⟨v5, rfl, o5, he⟩)
          refine hK.out _ _ (he.mono hz) ?_
          clear hK K
          try simp only [Act.put, List.setIfInBounds_toArray, List.set_cons_zero, List.set_cons_succ]
          have hz := Nat.le_trans hz he.size
          have hx2 := ext_trans hx2 he
          have hx := ext_trans hx he
          try (have b5 := b5.ext he)
          try (have b6 := b6.ext he)
          try (have d5 := d5.ext he)
          try (have d6 := d6.ext he)
          clear he
          have d5 := o5.v
          clear o5
          obtain ⟨A5, n5, c5, E5, m5, e5, rfl⟩ := d5.parts
          refine mixS2 4 6 (by kernel_rfl) (by kernel_rfl) (by rfl) (by rfl) (by rfl) (by rfl) (fun K hK => ?_) (fun K hK => ?_)
          · skip
            go_wp2_with (go_at_call 54; refine (dskKeep_v (k := k) (h.ext hx) HR.out.1 HR.out.2).mono ?_; rintro e wn ⟨v6, rfl, o6, he⟩)
            refine hK.out _ _ (he.mono hz) ?_
            clear hK K
            try simp only [Act.put, List.setIfInBounds_toArray, List.set_cons_zero, List.set_cons_succ]
            have hz := Nat.le_trans hz he.size
            have hx2 := ext_trans hx2 he
            have hx := ext_trans hx he
            try (have b5 := b5.ext he)
            try (have b6 := b6.ext he)
            try (have d5 := d5.ext he)
            try (have d6 := d6.ext he)
            clear he
            have d6 := o6.v
            clear o6
            obtain ⟨A6, n6, c6, E6, m6, e6, rfl⟩ := d6.parts
            refine mixS 6 (by kernel_rfl) (by kernel_rfl) (by rfl) (by rfl) (fun K hK => ?_)
            go_wp2
            refine hK.out _ _ ((ext_alloc _ _).mono hz) ?_
            clear hK K
            try simp only [Act.put, List.setIfInBounds_toArray, List.set_cons_zero, List.set_cons_succ]
            generalize hwn : World.alloc _ (Obj.cells #[.slice none 0 0, .slice none 0 0] 46) = wn
            have he := alloc_step hwn
            have h6 := hz
            try (have h56 := (Nat.ne_of_lt b5.lt).symm)
            have hz := Nat.le_trans hz he.size
            have hx2 := ext_trans hx2 he
            have hx := ext_trans hx he
            try (have b5 := b5.ext he)
            try (have b6 := b6.ext he)
            try (have d5 := d5.ext he)
            try (have d6 := d6.ext he)
            clear he
            have b6 := box_step hwn
            clear hwn
            refine mixS 7 (by kernel_rfl) (by kernel_rfl) (by rfl) (by rfl) (fun K hK => ?_)
            obtain ⟨x0, x1⟩ := b5.cells2
            have xz := b5.free
            go_wp2
            refine hK.out _ _ (((Below.refl _ _).setCell h5 _).setCell h5 _) ?_
            clear hK K x0 x1 xz
            try simp only [Act.put, List.setIfInBounds_toArray, List.set_cons_zero, List.set_cons_succ]
            generalize hwn : World.setCell (World.setCell _ _ _) _ _ = wn
            have d5 := dsk_step b5 d5 hwn
            have d6 := dsk_step b5 d6 hwn
            have b6 := oth_step b6 h56 hwn
            have b5 := set_step b5 hwn
            have hx2 : Below w4.heap.size w4 wn := by rw [← hwn]; exact (hx2.setCell h5 _).setCell h5 _
            clear hwn hx
            refine mixLast 8 (by kernel_rfl) (by kernel_rfl) (by kernel_rfl) (by rfl) (by rfl) (fun K hK => ?_)
            have hK' := Lib.hid hK
            clear hK
            obtain ⟨x0, x1⟩ := b6.cells2
            have xz := b6.free
            go_wp2
            refine hK'.out _ _ ?_
            clear hK' K x0 x1 xz
            generalize hwn : World.setCell (World.setCell _ _ _) _ _ = wn
            have d5 := dsk_step b6 d5 hwn
            have d6 := dsk_step b6 d6 hwn
            have b5 := oth_step b5 h56.symm hwn
            have b6 := set_step b6 hwn
            have hx2 : Below w4.heap.size w4 wn := by rw [← hwn]; exact (hx2.setCell h6 _).setCell h6 _
            clear hwn
            refine NoPanic.normal ?_
            go_wp2_with fail
            go_meet
            exact ⟨⟨_, _, _, _, _, _, _, rfl, b5, d5⟩, ⟨_, _, _, _, _, _, _, rfl, b6, d6⟩, hx2⟩
          · skip
            go_wp2
            refine hK.out _ _ ((ext_alloc _ _).mono hz) ?_
            clear hK K
            try simp only [Act.put, List.setIfInBounds_toArray, List.set_cons_zero, List.set_cons_succ]
            generalize hwn : World.alloc _ (Obj.cells #[.slice none 0 0, .slice none 0 0] 46) = wn
            have he := alloc_step hwn
            have h6 := hz
            try (have h56 := (Nat.ne_of_lt b5.lt).symm)
            have hz := Nat.le_trans hz he.size
            have hx2 := ext_trans hx2 he
            have hx := ext_trans hx he
            try (have b5 := b5.ext he)
            try (have b6 := b6.ext he)
            try (have d5 := d5.ext he)
            try (have d6 := d6.ext he)
            clear he
            have b6 := box_step hwn
            clear hwn
            refine mixS 4 (by kernel_rfl) (by kernel_rfl) (by rfl) (by rfl) (fun K hK => ?_)
            go_wp2_with (go_at_call 54; refine (dskKeep_v (k := k) (h.ext hx) HR.out.1 HR.out.2).mono ?_; rintro e wn ⟨v6, rfl, o6, he⟩)
            refine hK.out _ _ (he.mono hz) ?_
            clear hK K
            try simp only [Act.put, List.setIfInBounds_toArray, List.set_cons_zero, List.set_cons_succ]
            have hz := Nat.le_trans hz he.size
            have hx2 := ext_trans hx2 he
            have hx := ext_trans hx he
            try (have b5 := b5.ext he)
            try (have b6 := b6.ext he)
            try (have d5 := d5.ext he)
            try (have d6 := d6.ext he)
            clear he
            have d6 := o6.v
            clear o6
            obtain ⟨A6, n6, c6, E6, m6, e6, rfl⟩ := d6.parts
            refine mixS 7 (by kernel_rfl) (by kernel_rfl) (by rfl) (by rfl) (fun K hK => ?_)
            obtain ⟨x0, x1⟩ := b5.cells2
            have xz := b5.free
            go_wp2
            refine hK.out _ _ (((Below.refl _ _).setCell h5 _).setCell h5 _) ?_
            clear hK K x0 x1 xz
            try simp only [Act.put, List.setIfInBounds_toArray, List.set_cons_zero, List.set_cons_succ]
            generalize hwn : World.setCell (World.setCell _ _ _) _ _ = wn
            have d5 := dsk_step b5 d5 hwn
            have d6 := dsk_step b5 d6 hwn
            have b6 := oth_step b6 h56 hwn
            have b5 := set_step b5 hwn
            have hx2 : Below w4.heap.size w4 wn := by rw [← hwn]; exact (hx2.setCell h5 _).setCell h5 _
            clear hwn hx
            refine mixLast 8 (by kernel_rfl) (by kernel_rfl) (by kernel_rfl) (by rfl) (by rfl) (fun K hK => ?_)
            have hK' := Lib.hid hK
            clear hK
            obtain ⟨x0, x1⟩ := b6.cells2
            have xz := b6.free
            go_wp2
            refine hK'.out _ _ ?_
            clear hK' K x0 x1 xz
            generalize hwn : World.setCell (World.setCell _ _ _) _ _ = wn
            have d5 := dsk_step b6 d5 hwn
            have d6 := dsk_step b6 d6 hwn
            have b5 := oth_step b5 h56.symm hwn
            have b6 := set_step b6 hwn
            have hx2 : Below w4.heap.size w4 wn := by rw [← hwn]; exact (hx2.setCell h6 _).setCell h6 _
            clear hwn
            refine NoPanic.normal ?_
            go_wp2_with fail
            go_meet
            exact ⟨⟨_, _, _, _, _, _, _, rfl, b5, d5⟩, ⟨_, _, _, _, _, _, _, rfl, b6, d6⟩, hx2⟩
        · skip
          go_wp2
          refine hK.out _ _ ((ext_alloc _ _).mono hz) ?_
          clear hK K
          try simp only [Act.put, List.setIfInBounds_toArray, List.set_cons_zero, List.set_cons_succ]
          generalize hwn : World.alloc _ (Obj.cells #[.slice none 0 0, .slice none 0 0] 46) = wn
          have he := alloc_step hwn
          have h6 := hz
          try (have h56 := (Nat.ne_of_lt b5.lt).symm)
          have hz := Nat.le_trans hz he.size
          have hx2 := ext_trans hx2 he
          have hx := ext_trans hx he
          try (have b5 := b5.ext he)
          try (have b6 := b6.ext he)
          try (have d5 := d5.ext he)
          try (have d6 := d6.ext he)
          clear he
          have b6 := box_step hwn
          clear hwn
          refine mixS 1 (by kernel_rfl) (by kernel_rfl) (by rfl) (by rfl) (fun K hK => ?_)
          go_wp2_with (go_at_call 54; refine (dskKeep_v (k := 0) (h.ext hx) HR.out.1 HR.out.2).mono ?_; rintro e wn ⟨v5, rfl, o5, he⟩)
          refine hK.out _ _ (he.mono hz) ?_
          clear hK K
          try simp only [Act.put, List.setIfInBounds_toArray, List.set_cons_zero, List.set_cons_succ]
          have hz := Nat.le_trans hz he.size
          have hx2 := ext_trans hx2 he
          have hx := ext_trans hx he
          try (have b5 := b5.ext he)
          try (have b6 := b6.ext he)
          try (have d5 := d5.ext he)
          try (have d6 := d6.ext he)
          clear he
          have d5 := o5.v
          clear o5
          obtain ⟨A5, n5, c5, E5, m5, e5, rfl⟩ := d5.parts
          refine mixS 4 (by kernel_rfl) (by kernel_rfl) (by rfl) (by rfl) (fun K hK => ?_)
          go_wp2_with (go_at_call 54; refine (dskKeep_v (k := k) (h.ext hx) HR.out.1 HR.out.2).mono ?_; rintro e wn ⟨v6, rfl, o6, he⟩)
          refine hK.out _ _ (he.mono hz) ?_
          clear hK K
          try simp only [Act.put, List.setIfInBounds_toArray, List.set_cons_zero, List.set_cons_succ]
          have hz := Nat.le_trans hz he.size
          have hx2 := ext_trans hx2 he
          have hx := ext_trans hx he
          try (have b5 := b5.ext he)
          try (have b6 := b6.ext he)
          try (have d5 := d5.ext he)
          try (have d6 := d6.ext he)
          clear he
          have d6 := o6.v
          clear o6
          obtain ⟨A6, n6, c6, E6, m6, e6, rfl⟩ := d6.parts
          refine mixS 7 (by kernel_rfl) (by kernel_rfl) (by rfl) (by rfl) (fun K hK => ?_)
          obtain ⟨x0, x1⟩ := b5.cells2
          have xz := b5.free
          go_wp2
          refine hK.out _ _ (((Below.refl _ _).setCell h5 _).setCell h5 _) ?_
          clear hK K x0 x1 xz
          try simp only [Act.put, List.setIfInBounds_toArray, List.set_cons_zero, List.set_cons_succ]
          generalize hwn : World.setCell (World.setCell _ _ _) _ _ = wn
          have d5 := dsk_step b5 d5 hwn
          have d6 := dsk_step b5 d6 hwn
          have b6 := oth_step b6 h56 hwn
          have b5 := set_step b5 hwn
          have hx2 : Below w4.heap.size w4 wn := by rw [← hwn]; exact (hx2.setCell h5 _).setCell h5 _
          clear hwn hx
          refine mixLast 8 (by kernel_rfl) (by kernel_rfl) (by kernel_rfl) (by rfl) (by rfl) (fun K hK => ?_)
          have hK' := Lib.hid hK
          clear hK
          obtain ⟨x0, x1⟩ := b6.cells2
          have xz := b6.free
          go_wp2
          refine hK'.out _ _ ?_
          clear hK' K x0 x1 xz
          generalize hwn : World.setCell (World.setCell _ _ _) _ _ = wn
          have d5 := dsk_step b6 d5 hwn
          have d6 := dsk_step b6 d6 hwn
          have b5 := oth_step b5 h56.symm hwn
          have b6 := set_step b6 hwn
          have hx2 : Below w4.heap.size w4 wn := by rw [← hwn]; exact (hx2.setCell h6 _).setCell h6 _
          clear hwn
          refine NoPanic.normal ?_
          go_wp2_with fail
          go_meet
          exact ⟨⟨_, _, _, _, _, _, _, rfl, b5, d5⟩, ⟨_, _, _, _, _, _, _, rfl, b6, d6⟩, hx2⟩
      · skip
        go_wp2
        refine hK.out _ _ ((ext_alloc _ _).mono hz) ?_
        clear hK K
        try simp only [Act.put, List.setIfInBounds_toArray, List.set_cons_zero, List.set_cons_succ]
        generalize hwn : World.alloc _ (Obj.cells #[.slice none 0 0, .slice none 0 0] 46) = wn
        have he := alloc_step hwn
        have h6 := hz
        try (have h56 := (Nat.ne_of_lt b5.lt).symm)
        have hz := Nat.le_trans hz he.size
        have hx2 := ext_trans hx2 he
        have hx := ext_trans hx he
        try (have b5 := b5.ext he)
        try (have b6 := b6.ext he)
        try (have d5 := d5.ext he)
        try (have d6 := d6.ext he)
        clear he
        have b6 := box_step hwn
        clear hwn
        refine mixS2 1 5 (by kernel_rfl) (by kernel_rfl) (by rfl) (by rfl) (by rfl) (by rfl) (fun K hK => ?_) (fun K hK => ?_)
        · skip
          go_wp2_with (go_at_call 54; refine (dskKeep_v (k := 0) (h.ext hx) HR.out.1 HR.out.2).mono ?_; rintro e wn ⟨v5, rfl, o5, he⟩)
          refine hK.out _ _ (he.mono hz) ?_
          clear hK K
          try simp only [Act.put, List.setIfInBounds_toArray, List.set_cons_zero, List.set_cons_succ]
          have hz := Nat.le_trans hz he.size
          have hx2 := ext_trans hx2 he
          have hx := ext_trans hx he
          try (have b5 := b5.ext he)
          try (have b6 := b6.ext he)
          try (have d5 := d5.ext he)
          try (have d6 := d6.ext he)
          clear he
          have d5 := o5.v
          clear o5
          obtain ⟨A5, n5, c5, E5, m5, e5, rfl⟩ := d5.parts
          refine mixS2 4 5 (by kernel_rfl) (by kernel_rfl) (by rfl) (by rfl) (by rfl) (by rfl) (fun K hK => ?_) (fun K hK => ?_)
          · skip
            go_wp2_with (go_at_call 54; refine (dskKeep_v (k := k) (h.ext hx) HR.out.1 HR.out.2).mono ?_; rintro e wn ⟨v6, rfl, o6, he⟩)
            refine hK.out _ _ (he.mono hz) ?_
            clear hK K
            try simp only [Act.put, List.setIfInBounds_toArray, List.set_cons_zero, List.set_cons_succ]
            have hz := Nat.le_trans hz he.size
            have hx2 := ext_trans hx2 he
            have hx := ext_trans hx he
            try (have b5 := b5.ext he)
            try (have b6 := b6.ext he)
            try (have d5 := d5.ext he)
            try (have d6 := d6.ext he)
            clear he
            have d6 := o6.v
            clear o6
            obtain ⟨A6, n6, c6, E6, m6, e6, rfl⟩ := d6.parts
            refine mixS 5 (by kernel_rfl) (by kernel_rfl) (by rfl) (by rfl) (fun K hK => ?_)
            go_wp2
            refine hK.out _ _ ((ext_alloc _ _).mono hz) ?_
            clear hK K
            try simp only [Act.put, List.setIfInBounds_toArray, List.set_cons_zero, List.set_cons_succ]
            generalize hwn : World.alloc _ (Obj.cells #[.slice none 0 0, .slice none 0 0] 46) = wn
            have he := alloc_step hwn
            have h5 := hz
            try (have h56 := Nat.ne_of_lt b6.lt)
            have hz := Nat.le_trans hz he.size
            have hx2 := ext_trans hx2 he
            have hx := ext_trans hx he
            try (have b5 := b5.ext he)
            try (have b6 := b6.ext he)
            try (have d5 := d5.ext he)
            try (have d6 := d6.ext he)
            clear he
            have b5 := box_step hwn
            clear hwn
            refine mixS 7 (by kernel_rfl) (by kernel_rfl) (by rfl) (by rfl) (fun K hK => ?_)
            obtain ⟨x0, x1⟩ := b5.cells2
            have xz := b5.free
            go_wp2
            refine hK.out _ _ (((Below.refl _ _).setCell h5 _).setCell h5 _) ?_
            clear hK K x0 x1 xz
            try simp only [Act.put, List.setIfInBounds_toArray, List.set_cons_zero, List.set_cons_succ]
            generalize hwn : World.setCell (World.setCell _ _ _) _ _ = wn
            have d5 := dsk_step b5 d5 hwn
            have d6 := dsk_step b5 d6 hwn
            have b6 := oth_step b6 h56 hwn
            have b5 := set_step b5 hwn
            have hx2 : Below w4.heap.size w4 wn := by rw [← hwn]; exact (hx2.setCell h5 _).setCell h5 _
            clear hwn hx
            refine mixLast 8 (by kernel_rfl) (by kernel_rfl) (by kernel_rfl) (by rfl) (by rfl) (fun K hK => ?_)
            have hK' := Lib.hid hK
            clear hK
            obtain ⟨x0, x1⟩ := b6.cells2
            have xz := b6.free
            go_wp2
            refine hK'.out _ _ ?_
            clear hK' K x0 x1 xz
            generalize hwn : World.setCell (World.setCell _ _ _) _ _ = wn
            have d5 := dsk_step b6 d5 hwn
            have d6 := dsk_step b6 d6 hwn
            have b5 := oth_step b5 h56.symm hwn
            have b6 := set_step b6 hwn
            have hx2 : Below w4.heap.size w4 wn := by rw [← hwn]; exact (hx2.setCell h6 _).setCell h6 _
            clear hwn
            refine NoPanic.normal ?_
            go_wp2_with fail
            go_meet
            exact ⟨⟨_, _, _, _, _, _, _, rfl, b5, d5⟩, ⟨_, _, _, _, _, _, _, rfl, b6, d6⟩, hx2⟩
          · skip
            go_wp2
            refine hK.out _ _ ((ext_alloc _ _).mono hz) ?_
            clear hK K
            try simp only [Act.put, List.setIfInBounds_toArray, List.set_cons_zero, List.set_cons_succ]
            generalize hwn : World.alloc _ (Obj.cells #[.slice none 0 0, .slice none 0 0] 46) = wn
            have he := alloc_step hwn
            have h5 := hz
            try (have h56 := Nat.ne_of_lt b6.lt)
            have hz := Nat.le_trans hz he.size
            have hx2 := ext_trans hx2 he
            have hx := ext_trans hx he
            try (have b5 := b5.ext he)
            try (have b6 := b6.ext he)
            try (have d5 := d5.ext he)
            try (have d6 := d6.ext he)
            clear he
            have b5 := box_step hwn
            clear hwn
            refine mixS 4 (by kernel_rfl) (by kernel_rfl) (by rfl) (by rfl) (fun K hK => ?_)
            go_wp2_with (go_at_call 54; refine (dskKeep_v (k := k) (h.ext hx) HR.out.1 HR.out.2).mono ?_; rintro e wn ⟨v6, rfl, o6, he⟩)
            refine hK.out _ _ (he.mono hz) ?_
            clear hK K
            try simp only [Act.put, List.setIfInBounds_toArray, List.set_cons_zero, List.set_cons_succ]
            have hz := Nat.le_trans hz he.size
            have hx2 := ext_trans hx2 he
            have hx := ext_trans hx he
            try (have b5 := b5.ext he)
            try (have b6 := b6.ext he)
            try (have d5 := d5.ext he)
            try (have d6 := d6.ext he)
            clear he
            have d6 := o6.v
            clear o6
            obtain ⟨A6, n6, c6, E6, m6, e6, rfl⟩ := d6.parts
            refine mixS 7 (by kernel_rfl) (by kernel_rfl) (by rfl) (by rfl) (fun K hK => ?_)
            obtain ⟨x0, x1⟩ := b5.cells2
            have xz := b5.free
            go_wp2
            refine hK.out _ _ (((Below.refl _ _).setCell h5 _).setCell h5 _) ?_
            clear hK K x0 x1 xz
            try simp only [Act.put, List.setIfInBounds_toArray, List.set_cons_zero, List.set_cons_succ]
            generalize hwn : World.setCell (World.setCell _ _ _) _ _ = wn
            have d5 := dsk_step b5 d5 hwn
            have d6 := dsk_step b5 d6 hwn
            have b6 := oth_step b6 h56 hwn
            have b5 := set_step b5 hwn
            have hx2 : Below w4.heap.size w4 wn := by rw [← hwn]; exact (hx2.setCell h5 _).setCell h5 _
            clear hwn hx
            refine mixLast 8 (by kernel_rfl) (by kernel_rfl) (by kernel_rfl) (by rfl) (by rfl) (fun K hK => ?_)
            have hK' := Lib.hid hK
            clear hK
            obtain ⟨x0, x1⟩ := b6.cells2
            have xz := b6.free
            go_wp2
            refine hK'.out _ _ ?_
            clear hK' K x0 x1 xz
            generalize hwn : World.setCell (World.setCell _ _ _) _ _ = wn
            have d5 := dsk_step b6 d5 hwn
            have d6 := dsk_step b6 d6 hwn
            have b5 := oth_step b5 h56.symm hwn
            have b6 := set_step b6 hwn
            have hx2 : Below w4.heap.size w4 wn := by rw [← hwn]; exact (hx2.setCell h6 _).setCell h6 _
            clear hwn
            refine NoPanic.normal ?_
            go_wp2_with fail
            go_meet
            exact ⟨⟨_, _, _, _, _, _, _, rfl, b5, d5⟩, ⟨_, _, _, _, _, _, _, rfl, b6, d6⟩, hx2⟩
        · skip
          go_wp2
          refine hK.out _ _ ((ext_alloc _ _).mono hz) ?_
          clear hK K
          try simp only [Act.put, List.setIfInBounds_toArray, List.set_cons_zero, List.set_cons_succ]
          generalize hwn : World.alloc _ (Obj.cells #[.slice none 0 0, .slice none 0 0] 46) = wn
          have he := alloc_step hwn
          have h5 := hz
          try (have h56 := Nat.ne_of_lt b6.lt)
          have hz := Nat.le_trans hz he.size
          have hx2 := ext_trans hx2 he
          have hx := ext_trans hx he
          try (have b5 := b5.ext he)
          try (have b6 := b6.ext he)
          try (have d5 := d5.ext he)
          try (have d6 := d6.ext he)
          clear he
          have b5 := box_step hwn
          clear hwn
          refine mixS 1 (by kernel_rfl) (by kernel_rfl) (by rfl) (by rfl) (fun K hK => ?_)
          go_wp2_with (go_at_call 54; refine (dskKeep_v (k := 0) (h.ext hx) HR.out.1 HR.out.2).mono ?_; rintro e wn ⟨v5, rfl, o5, he⟩)
          refine hK.out _ _ (he.mono hz) ?_
          clear hK K
          try simp only [Act.put, List.setIfInBounds_toArray, List.set_cons_zero, List.set_cons_succ]
          have hz := Nat.le_trans hz he.size
          have hx2 := ext_trans hx2 he
          have hx := ext_trans hx he
          try (have b5 := b5.ext he)
          try (have b6 := b6.ext he)
          try (have d5 := d5.ext he)
          try (have d6 := d6.ext he)
          clear he
          have d5 := o5.v
          clear o5
          obtain ⟨A5, n5, c5, E5, m5, e5, rfl⟩ := d5.parts
          refine mixS 4 (by kernel_rfl) (by kernel_rfl) (by rfl) (by rfl) (fun K hK => ?_)
          go_wp2_with (go_at_call 54; refine (dskKeep_v (k := k) (h.ext hx) HR.out.1 HR.out.2).mono ?_; rintro e wn ⟨v6, rfl, o6, he⟩)
          refine hK.out _ _ (he.mono hz) ?_
          clear hK K
          try simp only [Act.put, List.setIfInBounds_toArray, List.set_cons_zero, List.set_cons_succ]
          have hz := Nat.le_trans hz he.size
          have hx2 := ext_trans hx2 he
          have hx := ext_trans hx he
          try (have b5 := b5.ext he)
          try (have b6 := b6.ext he)
          try (have d5 := d5.ext he)
          try (have d6 := d6.ext he)
          clear he
          have d6 := o6.v
          clear o6
          obtain ⟨A6, n6, c6, E6, m6, e6, rfl⟩ := d6.parts
          refine mixS 7 (by kernel_rfl) (by kernel_rfl) (by rfl) (by rfl) (fun K hK => ?_)
          obtain ⟨x0, x1⟩ := b5.cells2
          have xz := b5.free
          go_wp2
          refine hK.out _ _ (((Below.refl _ _).setCell h5 _).setCell h5 _) ?_
          clear hK K x0 x1 xz
          try simp only [Act.put, List.setIfInBounds_toArray, List.set_cons_zero, List.set_cons_succ]
          generalize hwn : World.setCell (World.setCell _ _ _) _ _ = wn
          have d5 := dsk_step b5 d5 hwn
          have d6 := dsk_step b5 d6 hwn
          have b6 := oth_step b6 h56 hwn
          have b5 := set_step b5 hwn
          have hx2 : Below w4.heap.size w4 wn := by rw [← hwn]; exact (hx2.setCell h5 _).setCell h5 _
          clear hwn hx
          refine mixLast 8 (by kernel_rfl) (by kernel_rfl) (by kernel_rfl) (by rfl) (by rfl) (fun K hK => ?_)
          have hK' := Lib.hid hK
          clear hK
          obtain ⟨x0, x1⟩ := b6.cells2
          have xz := b6.free
          go_wp2
          refine hK'.out _ _ ?_
          clear hK' K x0 x1 xz
          generalize hwn : World.setCell (World.setCell _ _ _) _ _ = wn
          have d5 := dsk_step b6 d5 hwn
          have d6 := dsk_step b6 d6 hwn
          have b5 := oth_step b5 h56.symm hwn
          have b6 := set_step b6 hwn
          have hx2 : Below w4.heap.size w4 wn := by rw [← hwn]; exact (hx2.setCell h6 _).setCell h6 _
          clear hwn
          refine NoPanic.normal ?_
          go_wp2_with fail
          go_meet
          exact ⟨⟨_, _, _, _, _, _, _, rfl, b5, d5⟩, ⟨_, _, _, _, _, _, _, rfl, b6, d6⟩, hx2⟩
    case rest =>
      obtain ⟨⟨g5, A5, n5, c5, E5, m5, e5, rfl, b5, d5⟩, ⟨g6, A6, n6, c6, E6, m6, e6, rfl, b6, d6⟩, he⟩ := hcut
      have em5 := d5.late1
      rw [show (dKeep d 0).late.length = 0 from rfl] at em5
      subst em5
      have em6 := d6.late1
      rw [show (dKeep d k).late.length = 0 from rfl] at em6
      subst em6
      have hx := ext_trans hx he
      have b2 := b2.ext he
      clear he
      obtain ⟨_, _, _, _, _, _, ev5, _, _, r5, _⟩ := d5.form
      simp only [Value.agg.injEq, Array.mk.injEq, List.cons.injEq, Value.slice.injEq, and_true] at ev5
      obtain ⟨⟨rfl, rfl, rfl⟩, rfl, rfl, rfl⟩ := ev5
      rw [dKeep_zero] at r5
      simp only at r5
      obtain ⟨A6', n6', c6', _, _, _, ev6, HN6, _, r6, _⟩ := d6.form
      simp only [Value.agg.injEq, Array.mk.injEq, List.cons.injEq, Value.slice.injEq, and_true] at ev6
      obtain ⟨⟨rfl, rfl, rfl⟩, rfl, rfl, rfl⟩ := ev6
      have hn6 : n6 = 12 := by
        rw [HN6.out]
        show (kTo d.late k d.blocks d.late.length).length = 12
        rw [kTo_length, ← HN.out]
      subst hn6
      clear d5 d6
      have hwb := hbl.ext hx
      have HT : Hid (∀ a, oneTo d ((dKeep d k).blocks.getD a []) a d.late.length = true) := fun a => oneTo_all HR.out.2 k a
      go_wp2_with fail
      refine wp_region_ext 24 [0, 1, 2, 3, 5, 6, 7, 9, 12, 13, 14, 15, 16, 17, 18, 19, 20, 21, 22, 23] false rfl (by kernel_rfl) (by kernel_rfl) ?_
      obtain ⟨D, hD⟩ : ∃ D, D = wc.drew := ⟨_, rfl⟩
      rw [← hD]
      have he : Ext wc D := by rw [hD]; exact (Below.refl _ _).drew
      clear hD
      have hx := ext_trans hx he
      have b2 := b2.ext he
      have b5 := b5.ext he
      have b6 := b6.ext he
      have r5 := r5.ext he
      have r6 := r6.ext he
      clear he hwb
      apply mixF 0 (by kernel_rfl) (by rfl) (by rfl)
      · (intro w' hx; obtain ⟨x0, x1⟩ := (b2.ext hx).cells2; obtain ⟨y0, y1⟩ := (b5.ext hx).cells2; go_simp <;> with_reducible rfl)
      simp only [Act.put, List.setIfInBounds_toArray, List.set_cons_zero, List.set_cons_succ]
      apply mixF 1 (by kernel_rfl) (by rfl) (by rfl)
      · (intro w' hx; obtain ⟨x0, x1⟩ := (b2.ext hx).cells2; obtain ⟨y0, y1⟩ := (b5.ext hx).cells2; go_simp <;> with_reducible rfl)
      simp only [Act.put, List.setIfInBounds_toArray, List.set_cons_zero, List.set_cons_succ]
      apply mixF 2 (by kernel_rfl) (by rfl) (by rfl)
      · (intro w' hx; obtain ⟨x0, x1⟩ := (b2.ext hx).cells2; obtain ⟨y0, y1⟩ := (b5.ext hx).cells2; go_simp <;> with_reducible rfl)
      simp only [Act.put, List.setIfInBounds_toArray, List.set_cons_zero, List.set_cons_succ]
      apply mixF 3 (by kernel_rfl) (by rfl) (by rfl)
      · (intro w' hx; obtain ⟨x0, x1⟩ := (b2.ext hx).cells2; obtain ⟨y0, y1⟩ := (b5.ext hx).cells2; go_simp <;> with_reducible rfl)
      simp only [Act.put, List.setIfInBounds_toArray, List.set_cons_zero, List.set_cons_succ]
      refine mixS 4 (by kernel_rfl) (by kernel_rfl) (by rfl) (by rfl) (fun K hK => ?_)
      go_wp2_with (go_at_call 61; refine (sameBlocks_self r5 (hbl.ext hx)).mono ?_; rintro e w6 ⟨rfl, he⟩)
      refine hK.out _ _ (he) ?_
      clear hK K
      try simp only [Act.put, List.setIfInBounds_toArray, List.set_cons_zero, List.set_cons_succ]
      have hx := ext_trans hx he
      have b2 := b2.ext he
      have b5 := b5.ext he
      have b6 := b6.ext he
      have r6 := r6.ext he
      clear he r5
      apply mixF 5 (by kernel_rfl) (by rfl) (by rfl)
      · (intro w' hx; obtain ⟨x0, x1⟩ := (b2.ext hx).cells2; go_simp <;> with_reducible rfl)
      simp only [Act.put, List.setIfInBounds_toArray, List.set_cons_zero, List.set_cons_succ]
      apply mixF 6 (by kernel_rfl) (by rfl) (by rfl)
      · (intro w' hx; obtain ⟨x0, x1⟩ := (b2.ext hx).cells2; go_simp <;> with_reducible rfl)
      simp only [Act.put, List.setIfInBounds_toArray, List.set_cons_zero, List.set_cons_succ]
      apply mixF 7 (by kernel_rfl) (by rfl) (by rfl)
      · (intro w' hx; obtain ⟨x0, x1⟩ := (b2.ext hx).cells2; go_simp <;> with_reducible rfl)
      simp only [Act.put, List.setIfInBounds_toArray, List.set_cons_zero, List.set_cons_succ]
      apply mixF 9 (by kernel_rfl) (by rfl) (by rfl)
      · (intro w' hx; obtain ⟨x0, x1⟩ := (b2.ext hx).cells2; go_simp <;> with_reducible rfl)
      simp only [Act.put, List.setIfInBounds_toArray, List.set_cons_zero, List.set_cons_succ]
      refine mixS 8 (by kernel_rfl) (by kernel_rfl) (by rfl) (by rfl) (fun K hK => ?_)
      go_wp2_with (go_at_call 54; refine (dskKeep_v (k := -1) (h.ext hx) HR.out.1 HR.out.2).mono ?_; rintro e w7 ⟨v30, rfl, o30, he⟩)
      refine hK.out _ _ (he) ?_
      clear hK K
      try simp only [Act.put, List.setIfInBounds_toArray, List.set_cons_zero, List.set_cons_succ]
      have hx := ext_trans hx he
      have b2 := b2.ext he
      have b5 := b5.ext he
      have b6 := b6.ext he
      have r6 := r6.ext he
      have d30 := o30.v
      clear he o30
      refine mixS 10 (by kernel_rfl) (by kernel_rfl) (by rfl) (by rfl) (fun K hK => ?_)
      go_wp2_with (go_at_call 56; refine (dskFlush_v (h.ext hx) HR.out.1 HR.out.2).mono ?_; rintro e w8 ⟨v32, rfl, o32, he⟩)
      refine hK.out _ _ (he) ?_
      clear hK K
      try simp only [Act.put, List.setIfInBounds_toArray, List.set_cons_zero, List.set_cons_succ]
      have hx := ext_trans hx he
      have b2 := b2.ext he
      have b5 := b5.ext he
      have b6 := b6.ext he
      have r6 := r6.ext he
      have d30 := d30.ext he
      have d32 := o32.v
      clear he o32
      refine mixS 11 (by kernel_rfl) (by kernel_rfl) (by rfl) (by rfl) (fun K hK => ?_)
      go_wp2_with (go_at_call 45; refine (sameDisk_v d30 d32).mono ?_; rintro e w9 ⟨rfl, he⟩)
      refine hK.out _ _ (he) ?_
      clear hK K
      try simp only [Act.put, List.setIfInBounds_toArray, List.set_cons_zero, List.set_cons_succ]
      rw [HA.out, (dSame_iff _ _).2 rfl]
      have hx := ext_trans hx he
      have b2 := b2.ext he
      have b5 := b5.ext he
      have b6 := b6.ext he
      have r6 := r6.ext he
      clear he d30 d32
      apply mixF 12 (by kernel_rfl) (by rfl) (by rfl)
      · (intro w' hx; obtain ⟨x0, x1⟩ := (b6.ext hx).cells2; obtain ⟨y0, y1⟩ := (b5.ext hx).cells2; go_simp <;> with_reducible rfl)
      simp only [Act.put, List.setIfInBounds_toArray, List.set_cons_zero, List.set_cons_succ]
      apply mixF 13 (by kernel_rfl) (by rfl) (by rfl)
      · (intro w' hx; obtain ⟨x0, x1⟩ := (b6.ext hx).cells2; obtain ⟨y0, y1⟩ := (b5.ext hx).cells2; go_simp <;> with_reducible rfl)
      simp only [Act.put, List.setIfInBounds_toArray, List.set_cons_zero, List.set_cons_succ]
      apply mixF 14 (by kernel_rfl) (by rfl) (by rfl)
      · (intro w' hx; obtain ⟨x0, x1⟩ := (b6.ext hx).cells2; obtain ⟨y0, y1⟩ := (b5.ext hx).cells2; go_simp <;> with_reducible rfl)
      simp only [Act.put, List.setIfInBounds_toArray, List.set_cons_zero, List.set_cons_succ]
      apply mixF 15 (by kernel_rfl) (by rfl) (by rfl)
      · (intro w' hx; obtain ⟨x0, x1⟩ := (b6.ext hx).cells2; obtain ⟨y0, y1⟩ := (b5.ext hx).cells2; go_simp <;> with_reducible rfl)
      simp only [Act.put, List.setIfInBounds_toArray, List.set_cons_zero, List.set_cons_succ]
      apply mixF 16 (by kernel_rfl) (by rfl) (by rfl)
      · (intro w' hx; obtain ⟨x0, x1⟩ := (b6.ext hx).cells2; obtain ⟨y0, y1⟩ := (b5.ext hx).cells2; go_simp <;> with_reducible rfl)
      simp only [Act.put, List.setIfInBounds_toArray, List.set_cons_zero, List.set_cons_succ]
      apply mixF 17 (by kernel_rfl) (by rfl) (by rfl)
      · (intro w' hx; obtain ⟨x0, x1⟩ := (b6.ext hx).cells2; obtain ⟨y0, y1⟩ := (b5.ext hx).cells2; go_simp <;> with_reducible rfl)
      simp only [Act.put, List.setIfInBounds_toArray, List.set_cons_zero, List.set_cons_succ]
      apply mixF 18 (by kernel_rfl) (by rfl) (by rfl)
      · (intro w' hx; obtain ⟨x0, x1⟩ := (b6.ext hx).cells2; obtain ⟨y0, y1⟩ := (b5.ext hx).cells2; go_simp <;> with_reducible rfl)
      simp only [Act.put, List.setIfInBounds_toArray, List.set_cons_zero, List.set_cons_succ]
      apply mixF 19 (by kernel_rfl) (by rfl) (by rfl)
      · (intro w' hx; obtain ⟨x0, x1⟩ := (b6.ext hx).cells2; obtain ⟨y0, y1⟩ := (b5.ext hx).cells2; go_simp <;> with_reducible rfl)
      simp only [Act.put, List.setIfInBounds_toArray, List.set_cons_zero, List.set_cons_succ]
      apply mixF 20 (by kernel_rfl) (by rfl) (by rfl)
      · (intro w' hx; obtain ⟨x0, x1⟩ := (b6.ext hx).cells2; obtain ⟨y0, y1⟩ := (b5.ext hx).cells2; go_simp <;> with_reducible rfl)
      simp only [Act.put, List.setIfInBounds_toArray, List.set_cons_zero, List.set_cons_succ]
      apply mixF 21 (by kernel_rfl) (by rfl) (by rfl)
      · (intro w' hx; obtain ⟨x0, x1⟩ := (b6.ext hx).cells2; obtain ⟨y0, y1⟩ := (b5.ext hx).cells2; go_simp <;> with_reducible rfl)
      simp only [Act.put, List.setIfInBounds_toArray, List.set_cons_zero, List.set_cons_succ]
      apply mixF 22 (by kernel_rfl) (by rfl) (by rfl)
      · (intro w' hx; obtain ⟨x0, x1⟩ := (b6.ext hx).cells2; obtain ⟨y0, y1⟩ := (b5.ext hx).cells2; go_simp <;> with_reducible rfl)
      simp only [Act.put, List.setIfInBounds_toArray, List.set_cons_zero, List.set_cons_succ]
      apply mixF 23 (by kernel_rfl) (by rfl) (by rfl)
      · (intro w' hx; obtain ⟨x0, x1⟩ := (b6.ext hx).cells2; obtain ⟨y0, y1⟩ := (b5.ext hx).cells2; go_simp <;> with_reducible rfl)
      simp only [Act.put, List.setIfInBounds_toArray, List.set_cons_zero, List.set_cons_succ]
      refine mixEnd (by kernel_rfl) ?_
      obtain ⟨x0, x1⟩ := b6.cells2
      go_wp2_with fail
      clear x0 x1
      go_loopw [49] (fun i wr => ∃ (a : Nat), a ≤ 12 ∧ i = .int .i64 a ∧ Ext w9 wr) (fun i _ => 12 - (intOf i).toNat)
      case atStart => exact ⟨0, by omega, rfl, Below.refl _ _⟩
      case round =>
        obtain ⟨a, ha, rfl, hd⟩ := hrel
        have hxr := ext_trans hx hd
        have b2 := b2.ext hd
        obtain ⟨x0, x1⟩ := b2.cells2
        by_cases hlt : a < 12
        · have e0 : (0 : Int) ≤ (a : Int) := by omega
          have e1 : (a : Int) < 12 := by omega
          obtain ⟨b, o, u, rfl, hb, hc, hu⟩ := (r6.ext hd).blk_at hlt
          obtain ⟨Au, nu, cu, rfl, hyu, _⟩ := hu.form
          obtain ⟨b', o', u', rfl, hb', hc', hu'⟩ := (hbl.ext hxr).blk_at hlt
          obtain ⟨Av, nv, cv, rfl, hyv, _⟩ := hu'.form
          have HTa := Lib.hid (HT.out a)
          have hzr := hxr.size
          go_wp2_with fail
          refine wp_region_ext 10 [0, 1, 2, 3, 4, 5, 6, 7, 8, 9] false rfl (by kernel_rfl) (by kernel_rfl) ?_
          obtain ⟨D, hD⟩ : ∃ D, D = wr.drew := ⟨_, rfl⟩
          rw [← hD]
          have he : Ext wr D := by rw [hD]; exact (Below.refl _ _).drew
          clear hD x0 x1
          have b2D := b2.ext he
          have hyD := Sl.below hyu he
          have hyE := Sl.below hyv he
          have hcD := (he.cell (p := ⟨b', o' + a, none⟩) hb').trans hc'
          have hzD := he.size
          apply mixF 0 (by kernel_rfl) (by rfl) (by rfl)
          · (intro w' hx; go_simp <;> with_reducible rfl)
          simp only [Act.put, List.setIfInBounds_toArray, List.set_cons_zero, List.set_cons_succ]
          apply mixF 1 (by kernel_rfl) (by rfl) (by rfl)
          · (intro w' hx; have q := run_str (Sl.below hyD (hx.mono hzD)); go_simp <;> with_reducible rfl)
          simp only [Act.put, List.setIfInBounds_toArray, List.set_cons_zero, List.set_cons_succ]
          apply mixF 2 (by kernel_rfl) (by rfl) (by rfl)
          · (intro w' hx; obtain ⟨x0, x1⟩ := (b2D.ext hx).cells2; go_simp <;> with_reducible rfl)
          simp only [Act.put, List.setIfInBounds_toArray, List.set_cons_zero, List.set_cons_succ]
          apply mixF 3 (by kernel_rfl) (by rfl) (by rfl)
          · (intro w' hx; obtain ⟨x0, x1⟩ := (b2D.ext hx).cells2; go_simp <;> with_reducible rfl)
          simp only [Act.put, List.setIfInBounds_toArray, List.set_cons_zero, List.set_cons_succ]
          apply mixF 4 (by kernel_rfl) (by rfl) (by rfl)
          · (intro w' hx; go_simp <;> with_reducible rfl)
          simp only [Act.put, List.setIfInBounds_toArray, List.set_cons_zero, List.set_cons_succ]
          apply mixF 5 (by kernel_rfl) (by rfl) (by rfl)
          · (intro w' hx; go_simp <;> with_reducible rfl)
          simp only [Act.put, List.setIfInBounds_toArray, List.set_cons_zero, List.set_cons_succ]
          apply mixF 6 (by kernel_rfl) (by rfl) (by rfl)
          · (intro w' hx; have q := (hx.cell (p := ⟨b', o' + a, none⟩) (Nat.lt_of_lt_of_le hb' hzD)).trans hcD; go_simp <;> with_reducible rfl)
          simp only [Act.put, List.setIfInBounds_toArray, List.set_cons_zero, List.set_cons_succ]
          apply mixF 7 (by kernel_rfl) (by rfl) (by rfl)
          · (intro w' hx; have q := run_str (Sl.below hyE (hx.mono hzD)); go_simp <;> with_reducible rfl)
          simp only [Act.put, List.setIfInBounds_toArray, List.set_cons_zero, List.set_cons_succ]
          apply mixF 8 (by kernel_rfl) (by rfl) (by rfl)
          · (intro w' hx; go_simp <;> with_reducible rfl)
          simp only [Act.put, List.setIfInBounds_toArray, List.set_cons_zero, List.set_cons_succ]
          apply mixF 9 (by kernel_rfl) (by rfl) (by rfl)
          · (intro w' hx; go_simp <;> with_reducible rfl)
          simp only [Act.put, List.setIfInBounds_toArray, List.set_cons_zero, List.set_cons_succ]
          refine mixEnd (by kernel_rfl) ?_
          obtain ⟨x0, x1⟩ := b2D.cells2
          go_wp2_with fail
          have hxD := hxr.mono (Nat.le_refl _)
          have hxD := ext_trans hxD he
          go_loopw [9, 66] (fun one j wr2 => ∃ (c : Nat) (z : Bool), c ≤ m ∧ j = .int .i64 c ∧ one = .bool z ∧ Hid (z = oneTo d ((dKeep d k).blocks.getD a []) a c) ∧ Ext D wr2) (fun _ j _ => m - (intOf j).toNat)
          case atStart => exact ⟨0, _, by omega, rfl, rfl, Lib.hid (by simp [oneTo]), Below.refl _ _⟩
          case round =>
            obtain ⟨c, z, hcm, rfl, rfl, hz, hd2⟩ := hrel
            by_cases hlt2 : c < m
            · have f0 : (0 : Int) ≤ (c : Int) := by omega
              have f1 : (c : Int) < (m : Int) := by omega
              have hs := oneTo_succ d ((dKeep d k).blocks.getD a []) a c (HM.out ▸ hlt2)
              obtain ⟨b2, o2, x, u2, rfl, hb2, ck, cd, Hx, hy2⟩ := (hla.ext (ext_trans hxD hd2)).wr_at hlt2
              obtain ⟨A2, n2, c2, rfl, hz2, _⟩ := hy2.form
              have q1 := fun o => run_str (Sl.below hz2 (ext_alloc wr o))
              have q2 := fun o => run_str (Sl.below hyD ((ext_trans hd2 (ext_alloc wr o)).mono hzD))
              cases z with
              | true =>
                go_wp2_with fail
                refine ⟨⟨c + 1, true, by omega, rfl, rfl, Lib.hid ?_, ext_trans hd2 (ext_alloc _ _)⟩, ?_⟩
                · rw [hs, ← hz.out]
                  rfl
                · simp only [intOf]
                  omega
              | false =>
                by_cases hxa : x = (a : Int)
                · subst hxa
                  go_wp2_with fail
                  refine ⟨⟨c + 1, _, by omega, rfl, rfl, Lib.hid ?_, ext_trans hd2 (ext_alloc _ _)⟩, ?_⟩
                  · rw [hs, ← hz.out, ← Hx.out]
                    simp
                  · simp only [intOf]
                    omega
                · have hxf : decide (x = (a : Int)) = false := decide_eq_false hxa
                  go_wp2_with fail
                  refine ⟨⟨_, _, _, _, _, _, _, _, _, _, _, _, _, _, _, _, _, _, _, _, _, _, ?_, rfl⟩, ?_⟩
                  · exact ⟨c + 1, false, by omega, rfl, rfl, Lib.hid (by rw [hs, ← hz.out, ← Hx.out, hxf]; rfl), ext_trans hd2 (ext_alloc _ _)⟩
                  · show m - (intOf (.int .i64 ((c : Int) + 1))).toNat < m - (intOf (.int .i64 (c : Int))).toNat
                    simp only [intOf]
                    omega
            · have hcm2 : c = m := by omega
              subst hcm2
              have hzt : z = true := by rw [hz.out, HM.out]; exact HTa.out
              subst hzt
              go_wp2_with fail
              refine ⟨⟨a + 1, by omega, rfl, ext_trans hd (ext_trans he hd2)⟩, ?_⟩
              simp only [intOf]
              omega
        · go_wp2
          go_ret
          exact ⟨rfl, hxr⟩

end Go.Proofs.Ytnganglmpcbcbaa
