/- Walks: the closed fact of chapter 3. -/
import Derived.Test.YtnganglmpcbcbaaRight
import Derived.Test.YtnganglmpcbcbaaMixB
import Derived.Test.YtnganglmpcbcbaaDskPut
import Derived.Test.YtnganglmpcbcbaaDskGet
import Derived.Test.YtnganglmpcbcbaaDskKeep
import Derived.Test.YtnganglmpcbcbaaDskFlush
import Derived.Test.YtnganglmpcbcbaaDskSpoil
import Derived.Test.YtnganglmpcbcbaaRefBytes
import Derived.Deep.Cut
import Derived.Deep.CutRange
namespace Go.Proofs.Ytnganglmpcbcbaa
open Go Go.RowKit

def zeros16 : List UInt8 := List.replicate 16 0
def aD1 : Dsk := ⟨dFree.blocks, [(3, zeros16)]⟩
theorem aPut : dPut dFree 3 zeros16 = (aD1, 0) := by rfl
theorem zeros_cells : madeCells #[.int .u8 0] 16 = (u8s zeros16).toArray := by rw [made1]; rfl
theorem DskOk_free : DskOk dFree := by
  refine ⟨by decide, by decide, fun i => ?_, fun i => by simp [dFree]⟩
  rcases Nat.lt_or_ge i 12 with h | h
  · have : ∀ i : Fin 12, (dFree.blocks.getD i.1 []).length ≤ 4096 := by decide +kernel
    exact this ⟨i, h⟩
  · rw [List.getD_eq_getElem?_getD, List.getElem?_eq_none (by simpa [dFree] using h)]
    simp

/-- A disk in a box. -/
def DBox (w : World) (p : Value) (d : Dsk) : Prop := ∃ g A n c E m e, p = .pointer (some ⟨g, 0, none⟩) ∧ Box w g 46 #[.slice A n c, .slice E m e] ∧ DskV tD w 0 (.agg #[.slice A n c, .slice E m e]) d

theorem alloc_step {w wn : World} {o : Obj} (h : w.alloc o = wn) : Ext w wn := by subst h; exact ext_alloc _ _
theorem zeros_step {w wn : World} (h : w.alloc (.cells (madeCells #[.int .u8 0] 16) 5) = wn) : ByT wn 0 (.slice (some ⟨w.heap.size, 0, none⟩) 16 16) zeros16 := by
  subst h
  rw [zeros_cells]
  exact ByT.of_own (own_lit w (u8s zeros16) 5 (Nat.le_refl _) (by decide) (by unfold maxLen; omega))
theorem box_step {w wn : World} {t : TypeId} {cs : Array Value} (h : w.alloc (.cells cs t) = wn) : Box wn w.heap.size t cs := by subst h; exact Box.new _ _ _ rfl
theorem set_step {w wn : World} {g : Nat} {t : TypeId} {a b x y : Value} (k : Box w g t #[a, b]) (h : (w.setCell ⟨g, 0, none⟩ x).setCell ⟨g, 1, none⟩ y = wn) : Box wn g t #[x, y] := by
  subst h
  exact (k.set 0 x).set 1 y
theorem dsk_step {w wn : World} {g : Nat} {cs : Array Value} {v x y : Value} {d : Dsk} (k : Box w g 46 cs) (hd : DskV tD w 0 v d) (h : (w.setCell ⟨g, 0, none⟩ x).setCell ⟨g, 1, none⟩ y = wn) : DskV tD wn 0 v d := by
  subst h
  have kk := k.kd
  exact hd.kept (by (repeat (with_reducible (first | assumption | exact Kept.refl _ _ _ | (apply Kept.setK; rotate_left; (repeat (first | assumption | apply Kd.set | apply Kd.alloc | apply Kd.drew)); decide; omega) | refine Kept.allocK ?_ _ | refine Kept.drewK ?_))))

theorem aGet : dGet aD1 3 = (zeros16, 0) := by rfl
theorem aOk : DskOk aD1 := by
  refine ⟨DskOk_free.blocks, by decide, DskOk_free.block, fun i => ?_⟩
  rcases i with _ | i
  · decide
  · simp [aD1]
theorem aIn : LateIn aD1 := fun i hi => by
  obtain rfl : i = 0 := by simpa [aD1] using hi
  decide
theorem byt_step {w wn : World} {g : Nat} {cs : Array Value} {v x y : Value} {l : List UInt8} (k : Box w g 46 cs) (hd : ByT w 0 v l) (h : (w.setCell ⟨g, 0, none⟩ x).setCell ⟨g, 1, none⟩ y = wn) : ByT wn 0 v l := by
  subst h
  have kk := k.kd
  exact hd.kept (T := []) (by (repeat (with_reducible (first | assumption | exact Kept.refl _ _ _ | (apply Kept.setK; rotate_left; (repeat (first | assumption | apply Kd.set | apply Kd.alloc | apply Kd.drew)); decide; omega) | refine Kept.allocK ?_ _ | refine Kept.drewK ?_))))
theorem oth_step {w wn : World} {g g' : Nat} {t : TypeId} {cs : Array Value} {x y : Value} (k : Box w g' t cs) (hne : g' ≠ g) (h : (w.setCell ⟨g, 0, none⟩ x).setCell ⟨g, 1, none⟩ y = wn) : Box wn g' t cs := by
  subst h
  exact (k.setOther (p := ⟨g, 0, none⟩) hne x).setOther (p := ⟨g, 1, none⟩) hne y

theorem DskV.byte {T : List TypeId} {w : World} {base n c m e k i : Nat} {A E : Option Addr} {d : Dsk} (h : DskV T w base (.agg #[.slice A n c, .slice E m e]) d) (hk : k < d.blocks.length) (hi : i < (d.blocks.getD k []).length) :
    ∃ b o b' o' nu cu, A = some ⟨b, o, none⟩ ∧ k < n ∧ w.cell? ⟨b, o + k, none⟩ = some (.slice (some ⟨b', o', none⟩) nu cu) ∧ i < nu ∧ w.cell? ⟨b', o' + i, none⟩ = some (.int .u8 (((d.blocks.getD k []).getD i 0).toNat : Int)) := by
  obtain ⟨A', n', c', E', m', e', ev, HN, _, hb, _⟩ := h.form
  simp only [Value.agg.injEq, Array.mk.injEq, List.cons.injEq, Value.slice.injEq, and_true] at ev
  obtain ⟨⟨rfl, rfl, rfl⟩, rfl, rfl, rfl⟩ := ev
  have hkn : k < n := by have := HN.out; omega
  obtain ⟨b, o, u, rfl, _, hc, hu⟩ := hb.blk_at hkn
  obtain ⟨Au, nu, cu, rfl, hy, HL⟩ := hu.form
  have hin : i < nu := by have := HL.out; omega
  obtain ⟨b', o', rfl, _, hcc⟩ := By.at_ hy hin
  exact ⟨b, o, b', o', nu, cu, rfl, hkn, hc, hin, hcc i hin⟩
theorem DskV.late1 {T : List TypeId} {w : World} {base n c m e : Nat} {A E : Option Addr} {d : Dsk} (h : DskV T w base (.agg #[.slice A n c, .slice E m e]) d) : m = d.late.length := by
  obtain ⟨A', n', c', E', m', e', ev, _, HE, _⟩ := h.form
  simp only [Value.agg.injEq, Array.mk.injEq, List.cons.injEq, Value.slice.injEq, and_true] at ev
  obtain ⟨⟨rfl, rfl, rfl⟩, rfl, rfl, rfl⟩ := ev
  exact HE.out
theorem aK : ((dKeep aD1 0).blocks.getD 3 []).getD 0 0 = 1 ∧ ((dFlush aD1).blocks.getD 3 []).getD 0 0 = 0 ∧ ((dSpoil (dFlush aD1) 3 0 5).blocks.getD 3 []).getD 0 0 = 5 := by decide +kernel
theorem aKl : 3 < (dKeep aD1 0).blocks.length ∧ 3 < (dFlush aD1).blocks.length ∧ 3 < (dSpoil (dFlush aD1) 3 0 5).blocks.length ∧ 0 < ((dKeep aD1 0).blocks.getD 3 []).length ∧ 0 < ((dFlush aD1).blocks.getD 3 []).length ∧ 0 < ((dSpoil (dFlush aD1) 3 0 5).blocks.getD 3 []).length := by decide +kernel

set_option maxRecDepth 100000 in
set_option maxHeartbeats 4000000 in
theorem alive3_w (w : World) : Calls Try.prog 60 #[] w fun e w' => e = .returned (.bool true) ∧ Ext w w' := by
  have hmk : ∀ w, (Instr.makeSlice 22 (.int .i64 16) (.int .i64 16)).run Try.prog w = .ok (.slice (some ⟨w.heap.size, 0, none⟩) 16 16) (w.alloc (.cells (madeCells #[.int .u8 0] 16) 5)) :=
    fun w => run_make_row' 22 5 (.int .u8 0) 1 Try.underlying22 info_u8 rfl .i64 .i64 16 (by omega) (by omega) w
  go_enter Try.func60, Try.ntmps60
  go_upto_region 1 with (fail)
  go_cut [1, 2] from 8 to 13 (fun t1 t2 wr => DBox wr t1 aD1 ∧ t2 = .int .i64 0 ∧ Ext w wr)
  case first =>
    refine wp_region_below w.heap.size 9 [3, 4, 5, 8] true rfl (by kernel_rfl) (by kernel_rfl) ?_
    have hz := Nat.le_refl w.heap.size
    have hx : Ext w w.drew := (Below.refl _ _).drew
    have hz : w.heap.size ≤ w.drew.heap.size := hx.size
    generalize w.drew = D at hz hx ⊢
    refine mixS3 0 1 6 (by kernel_rfl) (by kernel_rfl) (by rfl) (by rfl) (by rfl) (by rfl) (by rfl) (by rfl) (fun K hK => ?_) (fun K hK => ?_) (fun K hK => ?_)
    · skip
      go_wp2_with (go_at_call 46; refine (new_v _).mono ?_; rintro e wn ⟨v9, rfl, o9, he⟩)
      refine hK.out _ _ (he.mono hz) ?_
      clear hK K
      try simp only [Act.put, List.setIfInBounds_toArray, List.set_cons_zero, List.set_cons_succ]
      have hz := Nat.le_trans hz he.size
      have hx := ext_trans hx he
      try (have d9 := d9.ext he)
      try (have hy := hy.kept (T := []) (.ext he))
      try (have b1 := b1.ext he)
      try (have d11 := d11.ext he)
      clear he
      have d9 := o9.v
      clear o9
      refine mixS2 1 6 (by kernel_rfl) (by kernel_rfl) (by rfl) (by rfl) (by rfl) (by rfl) (fun K hK => ?_) (fun K hK => ?_)
      · skip
        go_wp2
        refine hK.out _ _ ((ext_alloc _ _).mono hz) ?_
        clear hK K
        try simp only [Act.put, List.setIfInBounds_toArray, List.set_cons_zero, List.set_cons_succ]
        generalize hwn : World.alloc _ (Obj.cells (madeCells #[.int .u8 0] 16) 5) = wn
        have he := alloc_step hwn
        have hz := Nat.le_trans hz he.size
        have hx := ext_trans hx he
        try (have d9 := d9.ext he)
        try (have hy := hy.kept (T := []) (.ext he))
        try (have b1 := b1.ext he)
        try (have d11 := d11.ext he)
        clear he
        have hy := zeros_step hwn
        clear hwn
        refine mixS2 2 6 (by kernel_rfl) (by kernel_rfl) (by rfl) (by rfl) (by rfl) (by rfl) (fun K hK => ?_) (fun K hK => ?_)
        · skip
          go_wp2_with (go_at_call 49; refine (dskPut_v d9 DskOk_free hy).mono ?_; rintro e wn ⟨v11, q11, rfl, hq, o11, he⟩; rw [aPut] at hq o11; simp only at hq; subst hq)
          refine hK.out _ _ (he.mono hz) ?_
          clear hK K
          try simp only [Act.put, List.setIfInBounds_toArray, List.set_cons_zero, List.set_cons_succ]
          have hz := Nat.le_trans hz he.size
          have hx := ext_trans hx he
          try (have d9 := d9.ext he)
          try (have hy := hy.kept (T := []) (.ext he))
          try (have b1 := b1.ext he)
          try (have d11 := d11.ext he)
          clear he
          have d11 := o11.v
          clear o11 d9 hy
          obtain ⟨A11, n11, c11, E11, m11, e11, rfl⟩ := d11.parts
          apply mixF 3 (by kernel_rfl) (by rfl) (by rfl)
          · (intro w' hx; go_simp <;> with_reducible rfl)
          simp only [Act.put, List.setIfInBounds_toArray, List.set_cons_zero, List.set_cons_succ]
          apply mixF 4 (by kernel_rfl) (by rfl) (by rfl)
          · (intro w' hx; go_simp <;> with_reducible rfl)
          simp only [Act.put, List.setIfInBounds_toArray, List.set_cons_zero, List.set_cons_succ]
          apply mixF 5 (by kernel_rfl) (by rfl) (by rfl)
          · (intro w' hx; go_simp <;> with_reducible rfl)
          simp only [Act.put, List.setIfInBounds_toArray, List.set_cons_zero, List.set_cons_succ]
          refine mixS 6 (by kernel_rfl) (by kernel_rfl) (by rfl) (by rfl) (fun K hK => ?_)
          go_wp2
          refine hK.out _ _ ((ext_alloc _ _).mono hz) ?_
          clear hK K
          try simp only [Act.put, List.setIfInBounds_toArray, List.set_cons_zero, List.set_cons_succ]
          generalize hwn : World.alloc _ (Obj.cells #[.slice none 0 0, .slice none 0 0] 46) = wn
          have he := alloc_step hwn
          have hg1 := hz
          have hz := Nat.le_trans hz he.size
          have hx := ext_trans hx he
          try (have d9 := d9.ext he)
          try (have hy := hy.kept (T := []) (.ext he))
          try (have b1 := b1.ext he)
          try (have d11 := d11.ext he)
          clear he
          have b1 := box_step hwn
          clear hwn
          refine mixS 7 (by kernel_rfl) (by kernel_rfl) (by rfl) (by rfl) (fun K hK => ?_)
          obtain ⟨x0, x1⟩ := b1.cells2
          have xz := b1.free
          go_wp2
          refine hK.out _ _ (((Below.refl _ _).setCell hg1 _).setCell hg1 _) ?_
          clear hK K x0 x1 xz
          try simp only [Act.put, List.setIfInBounds_toArray, List.set_cons_zero, List.set_cons_succ]
          generalize hwn : World.setCell (World.setCell _ _ _) _ _ = wn
          have d11 := dsk_step b1 d11 hwn
          have b1 := set_step b1 hwn
          have hx : Ext w wn := by rw [← hwn]; exact (hx.setCell hg1 _).setCell hg1 _
          clear hwn
          refine mixLast 8 (by kernel_rfl) (by kernel_rfl) (by kernel_rfl) (by rfl) (by rfl) (fun K hK => ?_)
          have hK' := Lib.hid hK
          clear hK
          go_wp2
          refine hK'.out _ _ ?_
          clear hK' K
          refine NoPanic.normal ?_
          go_wp2_with fail
          go_meet
          exact ⟨⟨_, _, _, _, _, _, _, rfl, b1, d11⟩, rfl, hx⟩
        · skip
          go_wp2
          refine hK.out _ _ ((ext_alloc _ _).mono hz) ?_
          clear hK K
          try simp only [Act.put, List.setIfInBounds_toArray, List.set_cons_zero, List.set_cons_succ]
          generalize hwn : World.alloc _ (Obj.cells #[.slice none 0 0, .slice none 0 0] 46) = wn
          have he := alloc_step hwn
          have hg1 := hz
          have hz := Nat.le_trans hz he.size
          have hx := ext_trans hx he
          try (have d9 := d9.ext he)
          try (have hy := hy.kept (T := []) (.ext he))
          try (have b1 := b1.ext he)
          try (have d11 := d11.ext he)
          clear he
          have b1 := box_step hwn
          clear hwn
          refine mixS 2 (by kernel_rfl) (by kernel_rfl) (by rfl) (by rfl) (fun K hK => ?_)
          go_wp2_with (go_at_call 49; refine (dskPut_v d9 DskOk_free hy).mono ?_; rintro e wn ⟨v11, q11, rfl, hq, o11, he⟩; rw [aPut] at hq o11; simp only at hq; subst hq)
          refine hK.out _ _ (he.mono hz) ?_
          clear hK K
          try simp only [Act.put, List.setIfInBounds_toArray, List.set_cons_zero, List.set_cons_succ]
          have hz := Nat.le_trans hz he.size
          have hx := ext_trans hx he
          try (have d9 := d9.ext he)
          try (have hy := hy.kept (T := []) (.ext he))
          try (have b1 := b1.ext he)
          try (have d11 := d11.ext he)
          clear he
          have d11 := o11.v
          clear o11 d9 hy
          obtain ⟨A11, n11, c11, E11, m11, e11, rfl⟩ := d11.parts
          apply mixF 3 (by kernel_rfl) (by rfl) (by rfl)
          · (intro w' hx; go_simp <;> with_reducible rfl)
          simp only [Act.put, List.setIfInBounds_toArray, List.set_cons_zero, List.set_cons_succ]
          apply mixF 4 (by kernel_rfl) (by rfl) (by rfl)
          · (intro w' hx; go_simp <;> with_reducible rfl)
          simp only [Act.put, List.setIfInBounds_toArray, List.set_cons_zero, List.set_cons_succ]
          apply mixF 5 (by kernel_rfl) (by rfl) (by rfl)
          · (intro w' hx; go_simp <;> with_reducible rfl)
          simp only [Act.put, List.setIfInBounds_toArray, List.set_cons_zero, List.set_cons_succ]
          refine mixS 7 (by kernel_rfl) (by kernel_rfl) (by rfl) (by rfl) (fun K hK => ?_)
          obtain ⟨x0, x1⟩ := b1.cells2
          have xz := b1.free
          go_wp2
          refine hK.out _ _ (((Below.refl _ _).setCell hg1 _).setCell hg1 _) ?_
          clear hK K x0 x1 xz
          try simp only [Act.put, List.setIfInBounds_toArray, List.set_cons_zero, List.set_cons_succ]
          generalize hwn : World.setCell (World.setCell _ _ _) _ _ = wn
          have d11 := dsk_step b1 d11 hwn
          have b1 := set_step b1 hwn
          have hx : Ext w wn := by rw [← hwn]; exact (hx.setCell hg1 _).setCell hg1 _
          clear hwn
          refine mixLast 8 (by kernel_rfl) (by kernel_rfl) (by kernel_rfl) (by rfl) (by rfl) (fun K hK => ?_)
          have hK' := Lib.hid hK
          clear hK
          go_wp2
          refine hK'.out _ _ ?_
          clear hK' K
          refine NoPanic.normal ?_
          go_wp2_with fail
          go_meet
          exact ⟨⟨_, _, _, _, _, _, _, rfl, b1, d11⟩, rfl, hx⟩
      · skip
        go_wp2
        refine hK.out _ _ ((ext_alloc _ _).mono hz) ?_
        clear hK K
        try simp only [Act.put, List.setIfInBounds_toArray, List.set_cons_zero, List.set_cons_succ]
        generalize hwn : World.alloc _ (Obj.cells #[.slice none 0 0, .slice none 0 0] 46) = wn
        have he := alloc_step hwn
        have hg1 := hz
        have hz := Nat.le_trans hz he.size
        have hx := ext_trans hx he
        try (have d9 := d9.ext he)
        try (have hy := hy.kept (T := []) (.ext he))
        try (have b1 := b1.ext he)
        try (have d11 := d11.ext he)
        clear he
        have b1 := box_step hwn
        clear hwn
        refine mixS 1 (by kernel_rfl) (by kernel_rfl) (by rfl) (by rfl) (fun K hK => ?_)
        go_wp2
        refine hK.out _ _ ((ext_alloc _ _).mono hz) ?_
        clear hK K
        try simp only [Act.put, List.setIfInBounds_toArray, List.set_cons_zero, List.set_cons_succ]
        generalize hwn : World.alloc _ (Obj.cells (madeCells #[.int .u8 0] 16) 5) = wn
        have he := alloc_step hwn
        have hz := Nat.le_trans hz he.size
        have hx := ext_trans hx he
        try (have d9 := d9.ext he)
        try (have hy := hy.kept (T := []) (.ext he))
        try (have b1 := b1.ext he)
        try (have d11 := d11.ext he)
        clear he
        have hy := zeros_step hwn
        clear hwn
        refine mixS 2 (by kernel_rfl) (by kernel_rfl) (by rfl) (by rfl) (fun K hK => ?_)
        go_wp2_with (go_at_call 49; refine (dskPut_v d9 DskOk_free hy).mono ?_; rintro e wn ⟨v11, q11, rfl, hq, o11, he⟩; rw [aPut] at hq o11; simp only at hq; subst hq)
        refine hK.out _ _ (he.mono hz) ?_
        clear hK K
        try simp only [Act.put, List.setIfInBounds_toArray, List.set_cons_zero, List.set_cons_succ]
        have hz := Nat.le_trans hz he.size
        have hx := ext_trans hx he
        try (have d9 := d9.ext he)
        try (have hy := hy.kept (T := []) (.ext he))
        try (have b1 := b1.ext he)
        try (have d11 := d11.ext he)
        clear he
        have d11 := o11.v
        clear o11 d9 hy
        obtain ⟨A11, n11, c11, E11, m11, e11, rfl⟩ := d11.parts
        apply mixF 3 (by kernel_rfl) (by rfl) (by rfl)
        · (intro w' hx; go_simp <;> with_reducible rfl)
        simp only [Act.put, List.setIfInBounds_toArray, List.set_cons_zero, List.set_cons_succ]
        apply mixF 4 (by kernel_rfl) (by rfl) (by rfl)
        · (intro w' hx; go_simp <;> with_reducible rfl)
        simp only [Act.put, List.setIfInBounds_toArray, List.set_cons_zero, List.set_cons_succ]
        apply mixF 5 (by kernel_rfl) (by rfl) (by rfl)
        · (intro w' hx; go_simp <;> with_reducible rfl)
        simp only [Act.put, List.setIfInBounds_toArray, List.set_cons_zero, List.set_cons_succ]
        refine mixS 7 (by kernel_rfl) (by kernel_rfl) (by rfl) (by rfl) (fun K hK => ?_)
        obtain ⟨x0, x1⟩ := b1.cells2
        have xz := b1.free
        go_wp2
        refine hK.out _ _ (((Below.refl _ _).setCell hg1 _).setCell hg1 _) ?_
        clear hK K x0 x1 xz
        try simp only [Act.put, List.setIfInBounds_toArray, List.set_cons_zero, List.set_cons_succ]
        generalize hwn : World.setCell (World.setCell _ _ _) _ _ = wn
        have d11 := dsk_step b1 d11 hwn
        have b1 := set_step b1 hwn
        have hx : Ext w wn := by rw [← hwn]; exact (hx.setCell hg1 _).setCell hg1 _
        clear hwn
        refine mixLast 8 (by kernel_rfl) (by kernel_rfl) (by kernel_rfl) (by rfl) (by rfl) (fun K hK => ?_)
        have hK' := Lib.hid hK
        clear hK
        go_wp2
        refine hK'.out _ _ ?_
        clear hK' K
        refine NoPanic.normal ?_
        go_wp2_with fail
        go_meet
        exact ⟨⟨_, _, _, _, _, _, _, rfl, b1, d11⟩, rfl, hx⟩
    · skip
      go_wp2
      refine hK.out _ _ ((ext_alloc _ _).mono hz) ?_
      clear hK K
      try simp only [Act.put, List.setIfInBounds_toArray, List.set_cons_zero, List.set_cons_succ]
      generalize hwn : World.alloc _ (Obj.cells (madeCells #[.int .u8 0] 16) 5) = wn
      have he := alloc_step hwn
      have hz := Nat.le_trans hz he.size
      have hx := ext_trans hx he
      try (have d9 := d9.ext he)
      try (have hy := hy.kept (T := []) (.ext he))
      try (have b1 := b1.ext he)
      try (have d11 := d11.ext he)
      clear he
      have hy := zeros_step hwn
      clear hwn
      refine mixS2 0 6 (by kernel_rfl) (by kernel_rfl) (by rfl) (by rfl) (by rfl) (by rfl) (fun K hK => ?_) (fun K hK => ?_)
      · skip
        go_wp2_with (go_at_call 46; refine (new_v _).mono ?_; rintro e wn ⟨v9, rfl, o9, he⟩)
        refine hK.out _ _ (he.mono hz) ?_
        clear hK K
        try simp only [Act.put, List.setIfInBounds_toArray, List.set_cons_zero, List.set_cons_succ]
        have hz := Nat.le_trans hz he.size
        have hx := ext_trans hx he
        try (have d9 := d9.ext he)
        try (have hy := hy.kept (T := []) (.ext he))
        try (have b1 := b1.ext he)
        try (have d11 := d11.ext he)
        clear he
        have d9 := o9.v
        clear o9
        refine mixS2 2 6 (by kernel_rfl) (by kernel_rfl) (by rfl) (by rfl) (by rfl) (by rfl) (fun K hK => ?_) (fun K hK => ?_)
        · skip
          go_wp2_with (go_at_call 49; refine (dskPut_v d9 DskOk_free hy).mono ?_; rintro e wn ⟨v11, q11, rfl, hq, o11, he⟩; rw [aPut] at hq o11; simp only at hq; subst hq)
          refine hK.out _ _ (he.mono hz) ?_
          clear hK K
          try simp only [Act.put, List.setIfInBounds_toArray, List.set_cons_zero, List.set_cons_succ]
          have hz := Nat.le_trans hz he.size
          have hx := ext_trans hx he
          try (have d9 := d9.ext he)
          try (have hy := hy.kept (T := []) (.ext he))
          try (have b1 := b1.ext he)
          try (have d11 := d11.ext he)
          clear he
          have d11 := o11.v
          clear o11 d9 hy
          obtain ⟨A11, n11, c11, E11, m11, e11, rfl⟩ := d11.parts
          apply mixF 3 (by kernel_rfl) (by rfl) (by rfl)
          · (intro w' hx; go_simp <;> with_reducible rfl)
          simp only [Act.put, List.setIfInBounds_toArray, List.set_cons_zero, List.set_cons_succ]
          apply mixF 4 (by kernel_rfl) (by rfl) (by rfl)
          · (intro w' hx; go_simp <;> with_reducible rfl)
          simp only [Act.put, List.setIfInBounds_toArray, List.set_cons_zero, List.set_cons_succ]
          apply mixF 5 (by kernel_rfl) (by rfl) (by rfl)
          · (intro w' hx; go_simp <;> with_reducible rfl)
          simp only [Act.put, List.setIfInBounds_toArray, List.set_cons_zero, List.set_cons_succ]
          refine mixS 6 (by kernel_rfl) (by kernel_rfl) (by rfl) (by rfl) (fun K hK => ?_)
          go_wp2
          refine hK.out _ _ ((ext_alloc _ _).mono hz) ?_
          clear hK K
          try simp only [Act.put, List.setIfInBounds_toArray, List.set_cons_zero, List.set_cons_succ]
          generalize hwn : World.alloc _ (Obj.cells #[.slice none 0 0, .slice none 0 0] 46) = wn
          have he := alloc_step hwn
          have hg1 := hz
          have hz := Nat.le_trans hz he.size
          have hx := ext_trans hx he
          try (have d9 := d9.ext he)
          try (have hy := hy.kept (T := []) (.ext he))
          try (have b1 := b1.ext he)
          try (have d11 := d11.ext he)
          clear he
          have b1 := box_step hwn
          clear hwn
          refine mixS 7 (by kernel_rfl) (by kernel_rfl) (by rfl) (by rfl) (fun K hK => ?_)
          obtain ⟨x0, x1⟩ := b1.cells2
          have xz := b1.free
          go_wp2
          refine hK.out _ _ (((Below.refl _ _).setCell hg1 _).setCell hg1 _) ?_
          clear hK K x0 x1 xz
          try simp only [Act.put, List.setIfInBounds_toArray, List.set_cons_zero, List.set_cons_succ]
          generalize hwn : World.setCell (World.setCell _ _ _) _ _ = wn
          have d11 := dsk_step b1 d11 hwn
          have b1 := set_step b1 hwn
          have hx : Ext w wn := by rw [← hwn]; exact (hx.setCell hg1 _).setCell hg1 _
          clear hwn
          refine mixLast 8 (by kernel_rfl) (by kernel_rfl) (by kernel_rfl) (by rfl) (by rfl) (fun K hK => ?_)
          have hK' := Lib.hid hK
          clear hK
          go_wp2
          refine hK'.out _ _ ?_
          clear hK' K
          refine NoPanic.normal ?_
          go_wp2_with fail
          go_meet
          exact ⟨⟨_, _, _, _, _, _, _, rfl, b1, d11⟩, rfl, hx⟩
        · skip
          go_wp2
          refine hK.out _ _ ((ext_alloc _ _).mono hz) ?_
          clear hK K
          try simp only [Act.put, List.setIfInBounds_toArray, List.set_cons_zero, List.set_cons_succ]
          generalize hwn : World.alloc _ (Obj.cells #[.slice none 0 0, .slice none 0 0] 46) = wn
          have he := alloc_step hwn
          have hg1 := hz
          have hz := Nat.le_trans hz he.size
          have hx := ext_trans hx he
          try (have d9 := d9.ext he)
          try (have hy := hy.kept (T := []) (.ext he))
          try (have b1 := b1.ext he)
          try (have d11 := d11.ext he)
          clear he
          have b1 := box_step hwn
          clear hwn
          refine mixS 2 (by kernel_rfl) (by kernel_rfl) (by rfl) (by rfl) (fun K hK => ?_)
          go_wp2_with (go_at_call 49; refine (dskPut_v d9 DskOk_free hy).mono ?_; rintro e wn ⟨v11, q11, rfl, hq, o11, he⟩; rw [aPut] at hq o11; simp only at hq; subst hq)
          refine hK.out _ _ (he.mono hz) ?_
          clear hK K
          try simp only [Act.put, List.setIfInBounds_toArray, List.set_cons_zero, List.set_cons_succ]
          have hz := Nat.le_trans hz he.size
          have hx := ext_trans hx he
          try (have d9 := d9.ext he)
          try (have hy := hy.kept (T := []) (.ext he))
          try (have b1 := b1.ext he)
          try (have d11 := d11.ext he)
          clear he
          have d11 := o11.v
          clear o11 d9 hy
          obtain ⟨A11, n11, c11, E11, m11, e11, rfl⟩ := d11.parts
          apply mixF 3 (by kernel_rfl) (by rfl) (by rfl)
          · (intro w' hx; go_simp <;> with_reducible rfl)
          simp only [Act.put, List.setIfInBounds_toArray, List.set_cons_zero, List.set_cons_succ]
          apply mixF 4 (by kernel_rfl) (by rfl) (by rfl)
          · (intro w' hx; go_simp <;> with_reducible rfl)
          simp only [Act.put, List.setIfInBounds_toArray, List.set_cons_zero, List.set_cons_succ]
          apply mixF 5 (by kernel_rfl) (by rfl) (by rfl)
          · (intro w' hx; go_simp <;> with_reducible rfl)
          simp only [Act.put, List.setIfInBounds_toArray, List.set_cons_zero, List.set_cons_succ]
          refine mixS 7 (by kernel_rfl) (by kernel_rfl) (by rfl) (by rfl) (fun K hK => ?_)
          obtain ⟨x0, x1⟩ := b1.cells2
          have xz := b1.free
          go_wp2
          refine hK.out _ _ (((Below.refl _ _).setCell hg1 _).setCell hg1 _) ?_
          clear hK K x0 x1 xz
          try simp only [Act.put, List.setIfInBounds_toArray, List.set_cons_zero, List.set_cons_succ]
          generalize hwn : World.setCell (World.setCell _ _ _) _ _ = wn
          have d11 := dsk_step b1 d11 hwn
          have b1 := set_step b1 hwn
          have hx : Ext w wn := by rw [← hwn]; exact (hx.setCell hg1 _).setCell hg1 _
          clear hwn
          refine mixLast 8 (by kernel_rfl) (by kernel_rfl) (by kernel_rfl) (by rfl) (by rfl) (fun K hK => ?_)
          have hK' := Lib.hid hK
          clear hK
          go_wp2
          refine hK'.out _ _ ?_
          clear hK' K
          refine NoPanic.normal ?_
          go_wp2_with fail
          go_meet
          exact ⟨⟨_, _, _, _, _, _, _, rfl, b1, d11⟩, rfl, hx⟩
      · skip
        go_wp2
        refine hK.out _ _ ((ext_alloc _ _).mono hz) ?_
        clear hK K
        try simp only [Act.put, List.setIfInBounds_toArray, List.set_cons_zero, List.set_cons_succ]
        generalize hwn : World.alloc _ (Obj.cells #[.slice none 0 0, .slice none 0 0] 46) = wn
        have he := alloc_step hwn
        have hg1 := hz
        have hz := Nat.le_trans hz he.size
        have hx := ext_trans hx he
        try (have d9 := d9.ext he)
        try (have hy := hy.kept (T := []) (.ext he))
        try (have b1 := b1.ext he)
        try (have d11 := d11.ext he)
        clear he
        have b1 := box_step hwn
        clear hwn
        refine mixS 0 (by kernel_rfl) (by kernel_rfl) (by rfl) (by rfl) (fun K hK => ?_)
        go_wp2_with (go_at_call 46; refine (new_v _).mono ?_; rintro e wn ⟨v9, rfl, o9, he⟩)
        refine hK.out _ _ (he.mono hz) ?_
        clear hK K
        try simp only [Act.put, List.setIfInBounds_toArray, List.set_cons_zero, List.set_cons_succ]
        have hz := Nat.le_trans hz he.size
        have hx := ext_trans hx he
        try (have d9 := d9.ext he)
        try (have hy := hy.kept (T := []) (.ext he))
        try (have b1 := b1.ext he)
        try (have d11 := d11.ext he)
        clear he
        have d9 := o9.v
        clear o9
        refine mixS 2 (by kernel_rfl) (by kernel_rfl) (by rfl) (by rfl) (fun K hK => ?_)
        go_wp2_with (go_at_call 49; refine (dskPut_v d9 DskOk_free hy).mono ?_; rintro e wn ⟨v11, q11, rfl, hq, o11, he⟩; rw [aPut] at hq o11; simp only at hq; subst hq)
        refine hK.out _ _ (he.mono hz) ?_
        clear hK K
        try simp only [Act.put, List.setIfInBounds_toArray, List.set_cons_zero, List.set_cons_succ]
        have hz := Nat.le_trans hz he.size
        have hx := ext_trans hx he
        try (have d9 := d9.ext he)
        try (have hy := hy.kept (T := []) (.ext he))
        try (have b1 := b1.ext he)
        try (have d11 := d11.ext he)
        clear he
        have d11 := o11.v
        clear o11 d9 hy
        obtain ⟨A11, n11, c11, E11, m11, e11, rfl⟩ := d11.parts
        apply mixF 3 (by kernel_rfl) (by rfl) (by rfl)
        · (intro w' hx; go_simp <;> with_reducible rfl)
        simp only [Act.put, List.setIfInBounds_toArray, List.set_cons_zero, List.set_cons_succ]
        apply mixF 4 (by kernel_rfl) (by rfl) (by rfl)
        · (intro w' hx; go_simp <;> with_reducible rfl)
        simp only [Act.put, List.setIfInBounds_toArray, List.set_cons_zero, List.set_cons_succ]
        apply mixF 5 (by kernel_rfl) (by rfl) (by rfl)
        · (intro w' hx; go_simp <;> with_reducible rfl)
        simp only [Act.put, List.setIfInBounds_toArray, List.set_cons_zero, List.set_cons_succ]
        refine mixS 7 (by kernel_rfl) (by kernel_rfl) (by rfl) (by rfl) (fun K hK => ?_)
        obtain ⟨x0, x1⟩ := b1.cells2
        have xz := b1.free
        go_wp2
        refine hK.out _ _ (((Below.refl _ _).setCell hg1 _).setCell hg1 _) ?_
        clear hK K x0 x1 xz
        try simp only [Act.put, List.setIfInBounds_toArray, List.set_cons_zero, List.set_cons_succ]
        generalize hwn : World.setCell (World.setCell _ _ _) _ _ = wn
        have d11 := dsk_step b1 d11 hwn
        have b1 := set_step b1 hwn
        have hx : Ext w wn := by rw [← hwn]; exact (hx.setCell hg1 _).setCell hg1 _
        clear hwn
        refine mixLast 8 (by kernel_rfl) (by kernel_rfl) (by kernel_rfl) (by rfl) (by rfl) (fun K hK => ?_)
        have hK' := Lib.hid hK
        clear hK
        go_wp2
        refine hK'.out _ _ ?_
        clear hK' K
        refine NoPanic.normal ?_
        go_wp2_with fail
        go_meet
        exact ⟨⟨_, _, _, _, _, _, _, rfl, b1, d11⟩, rfl, hx⟩
    · skip
      go_wp2
      refine hK.out _ _ ((ext_alloc _ _).mono hz) ?_
      clear hK K
      try simp only [Act.put, List.setIfInBounds_toArray, List.set_cons_zero, List.set_cons_succ]
      generalize hwn : World.alloc _ (Obj.cells #[.slice none 0 0, .slice none 0 0] 46) = wn
      have he := alloc_step hwn
      have hg1 := hz
      have hz := Nat.le_trans hz he.size
      have hx := ext_trans hx he
      try (have d9 := d9.ext he)
      try (have hy := hy.kept (T := []) (.ext he))
      try (have b1 := b1.ext he)
      try (have d11 := d11.ext he)
      clear he
      have b1 := box_step hwn
      clear hwn
      refine mixS2 0 1 (by kernel_rfl) (by kernel_rfl) (by rfl) (by rfl) (by rfl) (by rfl) (fun K hK => ?_) (fun K hK => ?_)
      · skip
        go_wp2_with (go_at_call 46; refine (new_v _).mono ?_; rintro e wn ⟨v9, rfl, o9, he⟩)
        refine hK.out _ _ (he.mono hz) ?_
        clear hK K
        try simp only [Act.put, List.setIfInBounds_toArray, List.set_cons_zero, List.set_cons_succ]
        have hz := Nat.le_trans hz he.size
        have hx := ext_trans hx he
        try (have d9 := d9.ext he)
        try (have hy := hy.kept (T := []) (.ext he))
        try (have b1 := b1.ext he)
        try (have d11 := d11.ext he)
        clear he
        have d9 := o9.v
        clear o9
        refine mixS 1 (by kernel_rfl) (by kernel_rfl) (by rfl) (by rfl) (fun K hK => ?_)
        go_wp2
        refine hK.out _ _ ((ext_alloc _ _).mono hz) ?_
        clear hK K
        try simp only [Act.put, List.setIfInBounds_toArray, List.set_cons_zero, List.set_cons_succ]
        generalize hwn : World.alloc _ (Obj.cells (madeCells #[.int .u8 0] 16) 5) = wn
        have he := alloc_step hwn
        have hz := Nat.le_trans hz he.size
        have hx := ext_trans hx he
        try (have d9 := d9.ext he)
        try (have hy := hy.kept (T := []) (.ext he))
        try (have b1 := b1.ext he)
        try (have d11 := d11.ext he)
        clear he
        have hy := zeros_step hwn
        clear hwn
        refine mixS 2 (by kernel_rfl) (by kernel_rfl) (by rfl) (by rfl) (fun K hK => ?_)
        go_wp2_with (go_at_call 49; refine (dskPut_v d9 DskOk_free hy).mono ?_; rintro e wn ⟨v11, q11, rfl, hq, o11, he⟩; rw [aPut] at hq o11; simp only at hq; subst hq)
        refine hK.out _ _ (he.mono hz) ?_
        clear hK K
        try simp only [Act.put, List.setIfInBounds_toArray, List.set_cons_zero, List.set_cons_succ]
        have hz := Nat.le_trans hz he.size
        have hx := ext_trans hx he
        try (have d9 := d9.ext he)
        try (have hy := hy.kept (T := []) (.ext he))
        try (have b1 := b1.ext he)
        try (have d11 := d11.ext he)
        clear he
        have d11 := o11.v
        clear o11 d9 hy
        obtain ⟨A11, n11, c11, E11, m11, e11, rfl⟩ := d11.parts
        apply mixF 3 (by kernel_rfl) (by rfl) (by rfl)
        · (intro w' hx; go_simp <;> with_reducible rfl)
        simp only [Act.put, List.setIfInBounds_toArray, List.set_cons_zero, List.set_cons_succ]
        apply mixF 4 (by kernel_rfl) (by rfl) (by rfl)
        · (intro w' hx; go_simp <;> with_reducible rfl)
        simp only [Act.put, List.setIfInBounds_toArray, List.set_cons_zero, List.set_cons_succ]
        apply mixF 5 (by kernel_rfl) (by rfl) (by rfl)
        · (intro w' hx; go_simp <;> with_reducible rfl)
        simp only [Act.put, List.setIfInBounds_toArray, List.set_cons_zero, List.set_cons_succ]
        refine mixS 7 (by kernel_rfl) (by kernel_rfl) (by rfl) (by rfl) (fun K hK => ?_)
        obtain ⟨x0, x1⟩ := b1.cells2
        have xz := b1.free
        go_wp2
        refine hK.out _ _ (((Below.refl _ _).setCell hg1 _).setCell hg1 _) ?_
        clear hK K x0 x1 xz
        try simp only [Act.put, List.setIfInBounds_toArray, List.set_cons_zero, List.set_cons_succ]
        generalize hwn : World.setCell (World.setCell _ _ _) _ _ = wn
        have d11 := dsk_step b1 d11 hwn
        have b1 := set_step b1 hwn
        have hx : Ext w wn := by rw [← hwn]; exact (hx.setCell hg1 _).setCell hg1 _
        clear hwn
        refine mixLast 8 (by kernel_rfl) (by kernel_rfl) (by kernel_rfl) (by rfl) (by rfl) (fun K hK => ?_)
        have hK' := Lib.hid hK
        clear hK
        go_wp2
        refine hK'.out _ _ ?_
        clear hK' K
        refine NoPanic.normal ?_
        go_wp2_with fail
        go_meet
        exact ⟨⟨_, _, _, _, _, _, _, rfl, b1, d11⟩, rfl, hx⟩
      · skip
        go_wp2
        refine hK.out _ _ ((ext_alloc _ _).mono hz) ?_
        clear hK K
        try simp only [Act.put, List.setIfInBounds_toArray, List.set_cons_zero, List.set_cons_succ]
        generalize hwn : World.alloc _ (Obj.cells (madeCells #[.int .u8 0] 16) 5) = wn
        have he := alloc_step hwn
        have hz := Nat.le_trans hz he.size
        have hx := ext_trans hx he
        try (have d9 := d9.ext he)
        try (have hy := hy.kept (T := []) (.ext he))
        try (have b1 := b1.ext he)
        try (have d11 := d11.ext he)
        clear he
        have hy := zeros_step hwn
        clear hwn
        refine mixS 0 (by kernel_rfl) (by kernel_rfl) (by rfl) (by rfl) (fun K hK => ?_)
        go_wp2_with (go_at_call 46; refine (new_v _).mono ?_; rintro e wn ⟨v9, rfl, o9, he⟩)
        refine hK.out _ _ (he.mono hz) ?_
        clear hK K
        try simp only [Act.put, List.setIfInBounds_toArray, List.set_cons_zero, List.set_cons_succ]
        have hz := Nat.le_trans hz he.size
        have hx := ext_trans hx he
        try (have d9 := d9.ext he)
        try (have hy := hy.kept (T := []) (.ext he))
        try (have b1 := b1.ext he)
        try (have d11 := d11.ext he)
        clear he
        have d9 := o9.v
        clear o9
        refine mixS 2 (by kernel_rfl) (by kernel_rfl) (by rfl) (by rfl) (fun K hK => ?_)
        go_wp2_with (go_at_call 49; refine (dskPut_v d9 DskOk_free hy).mono ?_; rintro e wn ⟨v11, q11, rfl, hq, o11, he⟩; rw [aPut] at hq o11; simp only at hq; subst hq)
        refine hK.out _ _ (he.mono hz) ?_
        clear hK K
        try simp only [Act.put, List.setIfInBounds_toArray, List.set_cons_zero, List.set_cons_succ]
        have hz := Nat.le_trans hz he.size
        have hx := ext_trans hx he
        try (have d9 := d9.ext he)
        try (have hy := hy.kept (T := []) (.ext he))
        try (have b1 := b1.ext he)
        try (have d11 := d11.ext he)
        clear he
        have d11 := o11.v
        clear o11 d9 hy
        obtain ⟨A11, n11, c11, E11, m11, e11, rfl⟩ := d11.parts
        apply mixF 3 (by kernel_rfl) (by rfl) (by rfl)
        · (intro w' hx; go_simp <;> with_reducible rfl)
        simp only [Act.put, List.setIfInBounds_toArray, List.set_cons_zero, List.set_cons_succ]
        apply mixF 4 (by kernel_rfl) (by rfl) (by rfl)
        · (intro w' hx; go_simp <;> with_reducible rfl)
        simp only [Act.put, List.setIfInBounds_toArray, List.set_cons_zero, List.set_cons_succ]
        apply mixF 5 (by kernel_rfl) (by rfl) (by rfl)
        · (intro w' hx; go_simp <;> with_reducible rfl)
        simp only [Act.put, List.setIfInBounds_toArray, List.set_cons_zero, List.set_cons_succ]
        refine mixS 7 (by kernel_rfl) (by kernel_rfl) (by rfl) (by rfl) (fun K hK => ?_)
        obtain ⟨x0, x1⟩ := b1.cells2
        have xz := b1.free
        go_wp2
        refine hK.out _ _ (((Below.refl _ _).setCell hg1 _).setCell hg1 _) ?_
        clear hK K x0 x1 xz
        try simp only [Act.put, List.setIfInBounds_toArray, List.set_cons_zero, List.set_cons_succ]
        generalize hwn : World.setCell (World.setCell _ _ _) _ _ = wn
        have d11 := dsk_step b1 d11 hwn
        have b1 := set_step b1 hwn
        have hx : Ext w wn := by rw [← hwn]; exact (hx.setCell hg1 _).setCell hg1 _
        clear hwn
        refine mixLast 8 (by kernel_rfl) (by kernel_rfl) (by kernel_rfl) (by rfl) (by rfl) (fun K hK => ?_)
        have hK' := Lib.hid hK
        clear hK
        go_wp2
        refine hK'.out _ _ ?_
        clear hK' K
        refine NoPanic.normal ?_
        go_wp2_with fail
        go_meet
        exact ⟨⟨_, _, _, _, _, _, _, rfl, b1, d11⟩, rfl, hx⟩
  case rest =>
    obtain ⟨⟨g1, A1, n1, c1, E1, m1, e1, rfl, b1, d1⟩, rfl, hx⟩ := hcut
    obtain ⟨x0, x1⟩ := b1.cells2
    go_wp2_with fail
    refine (dskGet_v (k := 3) d1 aOk).mono ?_
    rintro e2 w2 ⟨v3, q3, rfl, hq3, hy, he⟩
    rw [aGet] at hq3 hy
    simp only at hq3 hy
    subst hq3
    obtain ⟨A3, n3, c3, rfl, hyb, _⟩ := hy.form
    have hx := ext_trans hx he
    have b1 := b1.ext he
    have d1 := d1.ext he
    clear he x0 x1
    go_upto_region 3 with (fail)
    go_cut [5, 6] from 19 to 22 (fun t5 t6 wr => Box wr g1 46 #[.slice A1 n1 c1, .slice E1 m1 e1] ∧ DskV tD wr 0 (.agg #[.slice A1 n1 c1, .slice E1 m1 e1]) aD1 ∧ DBox wr t5 (dKeep aD1 0) ∧ DBox wr t6 (dFlush aD1) ∧ ByT wr 0 (.slice A3 n3 c3) zeros16 ∧ Ext w wr)
    case first =>
      refine wp_region_below w2.heap.size 8 [0, 2] true rfl (by kernel_rfl) (by kernel_rfl) ?_
      have hx2 : Ext w2 w2.drew := (Below.refl _ _).drew
      have hz : w2.heap.size ≤ w2.drew.heap.size := hx2.size
      have b1 := b1.ext hx2
      have d1 := d1.ext hx2
      have hy := hy.kept (T := []) (.ext hx2)
      have hg1 : g1 < w2.heap.size := b1.lt
      generalize w2.drew = D at hz hx2 b1 d1 hy ⊢
      clear hyb
      apply mixF 0 (by kernel_rfl) (by rfl) (by rfl)
      · (intro w' hx; obtain ⟨x0, x1⟩ := (b1.below hx hg1).cells2; go_simp <;> with_reducible rfl)
      simp only [Act.put, List.setIfInBounds_toArray, List.set_cons_zero, List.set_cons_succ]
      apply mixF 2 (by kernel_rfl) (by rfl) (by rfl)
      · (intro w' hx; obtain ⟨x0, x1⟩ := (b1.below hx hg1).cells2; go_simp <;> with_reducible rfl)
      simp only [Act.put, List.setIfInBounds_toArray, List.set_cons_zero, List.set_cons_succ]
      refine mixS3 1 4 5 (by kernel_rfl) (by kernel_rfl) (by rfl) (by rfl) (by rfl) (by rfl) (by rfl) (by rfl) (fun K hK => ?_) (fun K hK => ?_) (fun K hK => ?_)
      · skip
        go_wp2_with (go_at_call 54; refine (dskKeep_v (k := 0) d1 aOk aIn).mono ?_; rintro e wn ⟨v5, rfl, o5, he⟩)
        refine hK.out _ _ (he.mono hz) ?_
        clear hK K
        try simp only [Act.put, List.setIfInBounds_toArray, List.set_cons_zero, List.set_cons_succ]
        have hz := Nat.le_trans hz he.size
        have hx2 := ext_trans hx2 he
        have b1 := b1.ext he
        have d1 := d1.ext he
        have hy := hy.kept (T := []) (.ext he)
        try (have b5 := b5.ext he)
        try (have b6 := b6.ext he)
        try (have d5 := d5.ext he)
        try (have d6 := d6.ext he)
        clear he
        have d5 := o5.v
        clear o5
        obtain ⟨A5, n5, c5, E5, m5, e5, rfl⟩ := d5.parts
        refine mixS3 3 4 5 (by kernel_rfl) (by kernel_rfl) (by rfl) (by rfl) (by rfl) (by rfl) (by rfl) (by rfl) (fun K hK => ?_) (fun K hK => ?_) (fun K hK => ?_)
        · skip
          go_wp2_with (go_at_call 56; refine (dskFlush_v d1 aOk aIn).mono ?_; rintro e wn ⟨v6, rfl, o6, he⟩)
          refine hK.out _ _ (he.mono hz) ?_
          clear hK K
          try simp only [Act.put, List.setIfInBounds_toArray, List.set_cons_zero, List.set_cons_succ]
          have hz := Nat.le_trans hz he.size
          have hx2 := ext_trans hx2 he
          have b1 := b1.ext he
          have d1 := d1.ext he
          have hy := hy.kept (T := []) (.ext he)
          try (have b5 := b5.ext he)
          try (have b6 := b6.ext he)
          try (have d5 := d5.ext he)
          try (have d6 := d6.ext he)
          clear he
          have d6 := o6.v
          clear o6
          obtain ⟨A6, n6, c6, E6, m6, e6, rfl⟩ := d6.parts
          refine mixS2 4 5 (by kernel_rfl) (by kernel_rfl) (by rfl) (by rfl) (by rfl) (by rfl) (fun K hK => ?_) (fun K hK => ?_)
          · skip
            go_wp2
            refine hK.out _ _ ((ext_alloc _ _).mono hz) ?_
            clear hK K
            try simp only [Act.put, List.setIfInBounds_toArray, List.set_cons_zero, List.set_cons_succ]
            generalize hwn : World.alloc _ (Obj.cells #[.slice none 0 0, .slice none 0 0] 46) = wn
            have he := alloc_step hwn
            have h5 := hz
            have h15 := Nat.ne_of_lt b1.lt
            try (have h56 := Nat.ne_of_lt b6.lt)
            have hz := Nat.le_trans hz he.size
            have hx2 := ext_trans hx2 he
            have b1 := b1.ext he
            have d1 := d1.ext he
            have hy := hy.kept (T := []) (.ext he)
            try (have b5 := b5.ext he)
            try (have b6 := b6.ext he)
            try (have d5 := d5.ext he)
            try (have d6 := d6.ext he)
            clear he
            have b5 := box_step hwn
            clear hwn
            refine mixS 5 (by kernel_rfl) (by kernel_rfl) (by rfl) (by rfl) (fun K hK => ?_)
            go_wp2
            refine hK.out _ _ ((ext_alloc _ _).mono hz) ?_
            clear hK K
            try simp only [Act.put, List.setIfInBounds_toArray, List.set_cons_zero, List.set_cons_succ]
            generalize hwn : World.alloc _ (Obj.cells #[.slice none 0 0, .slice none 0 0] 46) = wn
            have he := alloc_step hwn
            have h6 := hz
            have h16 := Nat.ne_of_lt b1.lt
            try (have h56 := (Nat.ne_of_lt b5.lt).symm)
            have hz := Nat.le_trans hz he.size
            have hx2 := ext_trans hx2 he
            have b1 := b1.ext he
            have d1 := d1.ext he
            have hy := hy.kept (T := []) (.ext he)
            try (have b5 := b5.ext he)
            try (have b6 := b6.ext he)
            try (have d5 := d5.ext he)
            try (have d6 := d6.ext he)
            clear he
            have b6 := box_step hwn
            clear hwn
            refine mixS 6 (by kernel_rfl) (by kernel_rfl) (by rfl) (by rfl) (fun K hK => ?_)
            obtain ⟨x0, x1⟩ := b5.cells2
            have xz := b5.free
            go_wp2
            refine hK.out _ _ (((Below.refl _ _).setCell h5 _).setCell h5 _) ?_
            clear hK K x0 x1 xz
            try simp only [Act.put, List.setIfInBounds_toArray, List.set_cons_zero, List.set_cons_succ]
            generalize hwn : World.setCell (World.setCell _ _ _) _ _ = wn
            have d1 := dsk_step b5 d1 hwn
            have d5 := dsk_step b5 d5 hwn
            have d6 := dsk_step b5 d6 hwn
            have hy := byt_step b5 hy hwn
            have b1 := oth_step b1 h15 hwn
            have b6 := oth_step b6 h56 hwn
            have b5 := set_step b5 hwn
            have hx2 : Below w2.heap.size w2 wn := by rw [← hwn]; exact (hx2.setCell h5 _).setCell h5 _
            clear hwn
            refine mixLast 7 (by kernel_rfl) (by kernel_rfl) (by kernel_rfl) (by rfl) (by rfl) (fun K hK => ?_)
            have hK' := Lib.hid hK
            clear hK
            obtain ⟨x0, x1⟩ := b6.cells2
            have xz := b6.free
            go_wp2
            refine hK'.out _ _ ?_
            clear hK' K x0 x1 xz
            generalize hwn : World.setCell (World.setCell _ _ _) _ _ = wn
            have d1 := dsk_step b6 d1 hwn
            have d5 := dsk_step b6 d5 hwn
            have d6 := dsk_step b6 d6 hwn
            have hy := byt_step b6 hy hwn
            have b1 := oth_step b1 h16 hwn
            have b5 := oth_step b5 h56.symm hwn
            have b6 := set_step b6 hwn
            have hx2 : Below w2.heap.size w2 wn := by rw [← hwn]; exact (hx2.setCell h6 _).setCell h6 _
            clear hwn
            refine NoPanic.normal ?_
            go_wp2_with fail
            go_meet
            exact ⟨b1, d1, ⟨_, _, _, _, _, _, _, rfl, b5, d5⟩, ⟨_, _, _, _, _, _, _, rfl, b6, d6⟩, hy, ext_trans hx hx2⟩
          · skip
            go_wp2
            refine hK.out _ _ ((ext_alloc _ _).mono hz) ?_
            clear hK K
            try simp only [Act.put, List.setIfInBounds_toArray, List.set_cons_zero, List.set_cons_succ]
            generalize hwn : World.alloc _ (Obj.cells #[.slice none 0 0, .slice none 0 0] 46) = wn
            have he := alloc_step hwn
            have h6 := hz
            have h16 := Nat.ne_of_lt b1.lt
            try (have h56 := (Nat.ne_of_lt b5.lt).symm)
            have hz := Nat.le_trans hz he.size
            have hx2 := ext_trans hx2 he
            have b1 := b1.ext he
            have d1 := d1.ext he
            have hy := hy.kept (T := []) (.ext he)
            try (have b5 := b5.ext he)
            try (have b6 := b6.ext he)
            try (have d5 := d5.ext he)
            try (have d6 := d6.ext he)
            clear he
            have b6 := box_step hwn
            clear hwn
            refine mixS 4 (by kernel_rfl) (by kernel_rfl) (by rfl) (by rfl) (fun K hK => ?_)
            go_wp2
            refine hK.out _ _ ((ext_alloc _ _).mono hz) ?_
            clear hK K
            try simp only [Act.put, List.setIfInBounds_toArray, List.set_cons_zero, List.set_cons_succ]
            generalize hwn : World.alloc _ (Obj.cells #[.slice none 0 0, .slice none 0 0] 46) = wn
            have he := alloc_step hwn
            have h5 := hz
            have h15 := Nat.ne_of_lt b1.lt
            try (have h56 := Nat.ne_of_lt b6.lt)
            have hz := Nat.le_trans hz he.size
            have hx2 := ext_trans hx2 he
            have b1 := b1.ext he
            have d1 := d1.ext he
            have hy := hy.kept (T := []) (.ext he)
            try (have b5 := b5.ext he)
            try (have b6 := b6.ext he)
            try (have d5 := d5.ext he)
            try (have d6 := d6.ext he)
            clear he
            have b5 := box_step hwn
            clear hwn
            refine mixS 6 (by kernel_rfl) (by kernel_rfl) (by rfl) (by rfl) (fun K hK => ?_)
            obtain ⟨x0, x1⟩ := b5.cells2
            have xz := b5.free
            go_wp2
            refine hK.out _ _ (((Below.refl _ _).setCell h5 _).setCell h5 _) ?_
            clear hK K x0 x1 xz
            try simp only [Act.put, List.setIfInBounds_toArray, List.set_cons_zero, List.set_cons_succ]
            generalize hwn : World.setCell (World.setCell _ _ _) _ _ = wn
            have d1 := dsk_step b5 d1 hwn
            have d5 := dsk_step b5 d5 hwn
            have d6 := dsk_step b5 d6 hwn
            have hy := byt_step b5 hy hwn
            have b1 := oth_step b1 h15 hwn
            have b6 := oth_step b6 h56 hwn
            have b5 := set_step b5 hwn
            have hx2 : Below w2.heap.size w2 wn := by rw [← hwn]; exact (hx2.setCell h5 _).setCell h5 _
            clear hwn
            refine mixLast 7 (by kernel_rfl) (by kernel_rfl) (by kernel_rfl) (by rfl) (by rfl) (fun K hK => ?_)
            have hK' := Lib.hid hK
            clear hK
            obtain ⟨x0, x1⟩ := b6.cells2
            have xz := b6.free
            go_wp2
            refine hK'.out _ _ ?_
            clear hK' K x0 x1 xz
            generalize hwn : World.setCell (World.setCell _ _ _) _ _ = wn
            have d1 := dsk_step b6 d1 hwn
            have d5 := dsk_step b6 d5 hwn
            have d6 := dsk_step b6 d6 hwn
            have hy := byt_step b6 hy hwn
            have b1 := oth_step b1 h16 hwn
            have b5 := oth_step b5 h56.symm hwn
            have b6 := set_step b6 hwn
            have hx2 : Below w2.heap.size w2 wn := by rw [← hwn]; exact (hx2.setCell h6 _).setCell h6 _
            clear hwn
            refine NoPanic.normal ?_
            go_wp2_with fail
            go_meet
            exact ⟨b1, d1, ⟨_, _, _, _, _, _, _, rfl, b5, d5⟩, ⟨_, _, _, _, _, _, _, rfl, b6, d6⟩, hy, ext_trans hx hx2⟩
        · skip
          go_wp2
          refine hK.out _ _ ((ext_alloc _ _).mono hz) ?_
          clear hK K
          try simp only [Act.put, List.setIfInBounds_toArray, List.set_cons_zero, List.set_cons_succ]
          generalize hwn : World.alloc _ (Obj.cells #[.slice none 0 0, .slice none 0 0] 46) = wn
          have he := alloc_step hwn
          have h5 := hz
          have h15 := Nat.ne_of_lt b1.lt
          try (have h56 := Nat.ne_of_lt b6.lt)
          have hz := Nat.le_trans hz he.size
          have hx2 := ext_trans hx2 he
          have b1 := b1.ext he
          have d1 := d1.ext he
          have hy := hy.kept (T := []) (.ext he)
          try (have b5 := b5.ext he)
          try (have b6 := b6.ext he)
          try (have d5 := d5.ext he)
          try (have d6 := d6.ext he)
          clear he
          have b5 := box_step hwn
          clear hwn
          refine mixS2 3 5 (by kernel_rfl) (by kernel_rfl) (by rfl) (by rfl) (by rfl) (by rfl) (fun K hK => ?_) (fun K hK => ?_)
          · skip
            go_wp2_with (go_at_call 56; refine (dskFlush_v d1 aOk aIn).mono ?_; rintro e wn ⟨v6, rfl, o6, he⟩)
            refine hK.out _ _ (he.mono hz) ?_
            clear hK K
            try simp only [Act.put, List.setIfInBounds_toArray, List.set_cons_zero, List.set_cons_succ]
            have hz := Nat.le_trans hz he.size
            have hx2 := ext_trans hx2 he
            have b1 := b1.ext he
            have d1 := d1.ext he
            have hy := hy.kept (T := []) (.ext he)
            try (have b5 := b5.ext he)
            try (have b6 := b6.ext he)
            try (have d5 := d5.ext he)
            try (have d6 := d6.ext he)
            clear he
            have d6 := o6.v
            clear o6
            obtain ⟨A6, n6, c6, E6, m6, e6, rfl⟩ := d6.parts
            refine mixS 5 (by kernel_rfl) (by kernel_rfl) (by rfl) (by rfl) (fun K hK => ?_)
            go_wp2
            refine hK.out _ _ ((ext_alloc _ _).mono hz) ?_
            clear hK K
            try simp only [Act.put, List.setIfInBounds_toArray, List.set_cons_zero, List.set_cons_succ]
            generalize hwn : World.alloc _ (Obj.cells #[.slice none 0 0, .slice none 0 0] 46) = wn
            have he := alloc_step hwn
            have h6 := hz
            have h16 := Nat.ne_of_lt b1.lt
            try (have h56 := (Nat.ne_of_lt b5.lt).symm)
            have hz := Nat.le_trans hz he.size
            have hx2 := ext_trans hx2 he
            have b1 := b1.ext he
            have d1 := d1.ext he
            have hy := hy.kept (T := []) (.ext he)
            try (have b5 := b5.ext he)
            try (have b6 := b6.ext he)
            try (have d5 := d5.ext he)
            try (have d6 := d6.ext he)
            clear he
            have b6 := box_step hwn
            clear hwn
            refine mixS 6 (by kernel_rfl) (by kernel_rfl) (by rfl) (by rfl) (fun K hK => ?_)
            obtain ⟨x0, x1⟩ := b5.cells2
            have xz := b5.free
            go_wp2
            refine hK.out _ _ (((Below.refl _ _).setCell h5 _).setCell h5 _) ?_
            clear hK K x0 x1 xz
            try simp only [Act.put, List.setIfInBounds_toArray, List.set_cons_zero, List.set_cons_succ]
            generalize hwn : World.setCell (World.setCell _ _ _) _ _ = wn
            have d1 := dsk_step b5 d1 hwn
            have d5 := dsk_step b5 d5 hwn
            have d6 := dsk_step b5 d6 hwn
            have hy := byt_step b5 hy hwn
            have b1 := oth_step b1 h15 hwn
            have b6 := oth_step b6 h56 hwn
            have b5 := set_step b5 hwn
            have hx2 : Below w2.heap.size w2 wn := by rw [← hwn]; exact (hx2.setCell h5 _).setCell h5 _
            clear hwn
            refine mixLast 7 (by kernel_rfl) (by kernel_rfl) (by kernel_rfl) (by rfl) (by rfl) (fun K hK => ?_)
            have hK' := Lib.hid hK
            clear hK
            obtain ⟨x0, x1⟩ := b6.cells2
            have xz := b6.free
            go_wp2
            refine hK'.out _ _ ?_
            clear hK' K x0 x1 xz
            generalize hwn : World.setCell (World.setCell _ _ _) _ _ = wn
            have d1 := dsk_step b6 d1 hwn
            have d5 := dsk_step b6 d5 hwn
            have d6 := dsk_step b6 d6 hwn
            have hy := byt_step b6 hy hwn
            have b1 := oth_step b1 h16 hwn
            have b5 := oth_step b5 h56.symm hwn
            have b6 := set_step b6 hwn
            have hx2 : Below w2.heap.size w2 wn := by rw [← hwn]; exact (hx2.setCell h6 _).setCell h6 _
            clear hwn
            refine NoPanic.normal ?_
            go_wp2_with fail
            go_meet
            exact ⟨b1, d1, ⟨_, _, _, _, _, _, _, rfl, b5, d5⟩, ⟨_, _, _, _, _, _, _, rfl, b6, d6⟩, hy, ext_trans hx hx2⟩
          · skip
            go_wp2
            refine hK.out _ _ ((ext_alloc _ _).mono hz) ?_
            clear hK K
            try simp only [Act.put, List.setIfInBounds_toArray, List.set_cons_zero, List.set_cons_succ]
            generalize hwn : World.alloc _ (Obj.cells #[.slice none 0 0, .slice none 0 0] 46) = wn
            have he := alloc_step hwn
            have h6 := hz
            have h16 := Nat.ne_of_lt b1.lt
            try (have h56 := (Nat.ne_of_lt b5.lt).symm)
            have hz := Nat.le_trans hz he.size
            have hx2 := ext_trans hx2 he
            have b1 := b1.ext he
            have d1 := d1.ext he
            have hy := hy.kept (T := []) (.ext he)
            try (have b5 := b5.ext he)
            try (have b6 := b6.ext he)
            try (have d5 := d5.ext he)
            try (have d6 := d6.ext he)
            clear he
            have b6 := box_step hwn
            clear hwn
            refine mixS 3 (by kernel_rfl) (by kernel_rfl) (by rfl) (by rfl) (fun K hK => ?_)
            go_wp2_with (go_at_call 56; refine (dskFlush_v d1 aOk aIn).mono ?_; rintro e wn ⟨v6, rfl, o6, he⟩)
            refine hK.out _ _ (he.mono hz) ?_
            clear hK K
            try simp only [Act.put, List.setIfInBounds_toArray, List.set_cons_zero, List.set_cons_succ]
            have hz := Nat.le_trans hz he.size
            have hx2 := ext_trans hx2 he
            have b1 := b1.ext he
            have d1 := d1.ext he
            have hy := hy.kept (T := []) (.ext he)
            try (have b5 := b5.ext he)
            try (have b6 := b6.ext he)
            try (have d5 := d5.ext he)
            try (have d6 := d6.ext he)
            clear he
            have d6 := o6.v
            clear o6
            obtain ⟨A6, n6, c6, E6, m6, e6, rfl⟩ := d6.parts
            refine mixS 6 (by kernel_rfl) (by kernel_rfl) (by rfl) (by rfl) (fun K hK => ?_)
            obtain ⟨x0, x1⟩ := b5.cells2
            have xz := b5.free
            go_wp2
            refine hK.out _ _ (((Below.refl _ _).setCell h5 _).setCell h5 _) ?_
            clear hK K x0 x1 xz
            try simp only [Act.put, List.setIfInBounds_toArray, List.set_cons_zero, List.set_cons_succ]
            generalize hwn : World.setCell (World.setCell _ _ _) _ _ = wn
            have d1 := dsk_step b5 d1 hwn
            have d5 := dsk_step b5 d5 hwn
            have d6 := dsk_step b5 d6 hwn
            have hy := byt_step b5 hy hwn
            have b1 := oth_step b1 h15 hwn
            have b6 := oth_step b6 h56 hwn
            have b5 := set_step b5 hwn
            have hx2 : Below w2.heap.size w2 wn := by rw [← hwn]; exact (hx2.setCell h5 _).setCell h5 _
            clear hwn
            refine mixLast 7 (by kernel_rfl) (by kernel_rfl) (by kernel_rfl) (by rfl) (by rfl) (fun K hK => ?_)
            have hK' := Lib.hid hK
            clear hK
            obtain ⟨x0, x1⟩ := b6.cells2
            have xz := b6.free
            go_wp2
            refine hK'.out _ _ ?_
            clear hK' K x0 x1 xz
            generalize hwn : World.setCell (World.setCell _ _ _) _ _ = wn
            have d1 := dsk_step b6 d1 hwn
            have d5 := dsk_step b6 d5 hwn
            have d6 := dsk_step b6 d6 hwn
            have hy := byt_step b6 hy hwn
            have b1 := oth_step b1 h16 hwn
            have b5 := oth_step b5 h56.symm hwn
            have b6 := set_step b6 hwn
            have hx2 : Below w2.heap.size w2 wn := by rw [← hwn]; exact (hx2.setCell h6 _).setCell h6 _
            clear hwn
            refine NoPanic.normal ?_
            go_wp2_with fail
            go_meet
            exact ⟨b1, d1, ⟨_, _, _, _, _, _, _, rfl, b5, d5⟩, ⟨_, _, _, _, _, _, _, rfl, b6, d6⟩, hy, ext_trans hx hx2⟩
        · skip
          go_wp2
          refine hK.out _ _ ((ext_alloc _ _).mono hz) ?_
          clear hK K
          try simp only [Act.put, List.setIfInBounds_toArray, List.set_cons_zero, List.set_cons_succ]
          generalize hwn : World.alloc _ (Obj.cells #[.slice none 0 0, .slice none 0 0] 46) = wn
          have he := alloc_step hwn
          have h6 := hz
          have h16 := Nat.ne_of_lt b1.lt
          try (have h56 := (Nat.ne_of_lt b5.lt).symm)
          have hz := Nat.le_trans hz he.size
          have hx2 := ext_trans hx2 he
          have b1 := b1.ext he
          have d1 := d1.ext he
          have hy := hy.kept (T := []) (.ext he)
          try (have b5 := b5.ext he)
          try (have b6 := b6.ext he)
          try (have d5 := d5.ext he)
          try (have d6 := d6.ext he)
          clear he
          have b6 := box_step hwn
          clear hwn
          refine mixS2 3 4 (by kernel_rfl) (by kernel_rfl) (by rfl) (by rfl) (by rfl) (by rfl) (fun K hK => ?_) (fun K hK => ?_)
          · skip
            go_wp2_with (go_at_call 56; refine (dskFlush_v d1 aOk aIn).mono ?_; rintro e wn ⟨v6, rfl, o6, he⟩)
            refine hK.out _ _ (he.mono hz) ?_
            clear hK K
            try simp only [Act.put, List.setIfInBounds_toArray, List.set_cons_zero, List.set_cons_succ]
            have hz := Nat.le_trans hz he.size
            have hx2 := ext_trans hx2 he
            have b1 := b1.ext he
            have d1 := d1.ext he
            have hy := hy.kept (T := []) (.ext he)
            try (have b5 := b5.ext he)
            try (have b6 := b6.ext he)
            try (have d5 := d5.ext he)
            try (have d6 := d6.ext he)
            clear he
            have d6 := o6.v
            clear o6
            obtain ⟨A6, n6, c6, E6, m6, e6, rfl⟩ := d6.parts
            refine mixS 4 (by kernel_rfl) (by kernel_rfl) (by rfl) (by rfl) (fun K hK => ?_)
            go_wp2
            refine hK.out _ _ ((ext_alloc _ _).mono hz) ?_
            clear hK K
            try simp only [Act.put, List.setIfInBounds_toArray, List.set_cons_zero, List.set_cons_succ]
            generalize hwn : World.alloc _ (Obj.cells #[.slice none 0 0, .slice none 0 0] 46) = wn
            have he := alloc_step hwn
            have h5 := hz
            have h15 := Nat.ne_of_lt b1.lt
            try (have h56 := Nat.ne_of_lt b6.lt)
            have hz := Nat.le_trans hz he.size
            have hx2 := ext_trans hx2 he
            have b1 := b1.ext he
            have d1 := d1.ext he
            have hy := hy.kept (T := []) (.ext he)
            try (have b5 := b5.ext he)
            try (have b6 := b6.ext he)
            try (have d5 := d5.ext he)
            try (have d6 := d6.ext he)
            clear he
            have b5 := box_step hwn
            clear hwn
            refine mixS 6 (by kernel_rfl) (by kernel_rfl) (by rfl) (by rfl) (fun K hK => ?_)
            obtain ⟨x0, x1⟩ := b5.cells2
            have xz := b5.free
            go_wp2
            refine hK.out _ _ (((Below.refl _ _).setCell h5 _).setCell h5 _) ?_
            clear hK K x0 x1 xz
            try simp only [Act.put, List.setIfInBounds_toArray, List.set_cons_zero, List.set_cons_succ]
            generalize hwn : World.setCell (World.setCell _ _ _) _ _ = wn
            have d1 := dsk_step b5 d1 hwn
            have d5 := dsk_step b5 d5 hwn
            have d6 := dsk_step b5 d6 hwn
            have hy := byt_step b5 hy hwn
            have b1 := oth_step b1 h15 hwn
            have b6 := oth_step b6 h56 hwn
            have b5 := set_step b5 hwn
            have hx2 : Below w2.heap.size w2 wn := by rw [← hwn]; exact (hx2.setCell h5 _).setCell h5 _
            clear hwn
            refine mixLast 7 (by kernel_rfl) (by kernel_rfl) (by kernel_rfl) (by rfl) (by rfl) (fun K hK => ?_)
            have hK' := Lib.hid hK
            clear hK
            obtain ⟨x0, x1⟩ := b6.cells2
            have xz := b6.free
            go_wp2
            refine hK'.out _ _ ?_
            clear hK' K x0 x1 xz
            generalize hwn : World.setCell (World.setCell _ _ _) _ _ = wn
            have d1 := dsk_step b6 d1 hwn
            have d5 := dsk_step b6 d5 hwn
            have d6 := dsk_step b6 d6 hwn
            have hy := byt_step b6 hy hwn
            have b1 := oth_step b1 h16 hwn
            have b5 := oth_step b5 h56.symm hwn
            have b6 := set_step b6 hwn
            have hx2 : Below w2.heap.size w2 wn := by rw [← hwn]; exact (hx2.setCell h6 _).setCell h6 _
            clear hwn
            refine NoPanic.normal ?_
            go_wp2_with fail
            go_meet
            exact ⟨b1, d1, ⟨_, _, _, _, _, _, _, rfl, b5, d5⟩, ⟨_, _, _, _, _, _, _, rfl, b6, d6⟩, hy, ext_trans hx hx2⟩
          · skip
            go_wp2
            refine hK.out _ _ ((ext_alloc _ _).mono hz) ?_
            clear hK K
            try simp only [Act.put, List.setIfInBounds_toArray, List.set_cons_zero, List.set_cons_succ]
            generalize hwn : World.alloc _ (Obj.cells #[.slice none 0 0, .slice none 0 0] 46) = wn
            have he := alloc_step hwn
            have h5 := hz
            have h15 := Nat.ne_of_lt b1.lt
            try (have h56 := Nat.ne_of_lt b6.lt)
            have hz := Nat.le_trans hz he.size
            have hx2 := ext_trans hx2 he
            have b1 := b1.ext he
            have d1 := d1.ext he
            have hy := hy.kept (T := []) (.ext he)
            try (have b5 := b5.ext he)
            try (have b6 := b6.ext he)
            try (have d5 := d5.ext he)
            try (have d6 := d6.ext he)
            clear he
            have b5 := box_step hwn
            clear hwn
            refine mixS 3 (by kernel_rfl) (by kernel_rfl) (by rfl) (by rfl) (fun K hK => ?_)
            go_wp2_with (go_at_call 56; refine (dskFlush_v d1 aOk aIn).mono ?_; rintro e wn ⟨v6, rfl, o6, he⟩)
            refine hK.out _ _ (he.mono hz) ?_
            clear hK K
            try simp only [Act.put, List.setIfInBounds_toArray, List.set_cons_zero, List.set_cons_succ]
            have hz := Nat.le_trans hz he.size
            have hx2 := ext_trans hx2 he
            have b1 := b1.ext he
            have d1 := d1.ext he
            have hy := hy.kept (T := []) (.ext he)
            try (have b5 := b5.ext he)
            try (have b6 := b6.ext he)
            try (have d5 := d5.ext he)
            try (have d6 := d6.ext he)
            clear he
            have d6 := o6.v
            clear o6
            obtain ⟨A6, n6, c6, E6, m6, e6, rfl⟩ := d6.parts
            refine mixS 6 (by kernel_rfl) (by kernel_rfl) (by rfl) (by rfl) (fun K hK => ?_)
            obtain ⟨x0, x1⟩ := b5.cells2
            have xz := b5.free
            go_wp2
            refine hK.out _ _ (((Below.refl _ _).setCell h5 _).setCell h5 _) ?_
            clear hK K x0 x1 xz
            try simp only [Act.put, List.setIfInBounds_toArray, List.set_cons_zero, List.set_cons_succ]
            generalize hwn : World.setCell (World.setCell _ _ _) _ _ = wn
            have d1 := dsk_step b5 d1 hwn
            have d5 := dsk_step b5 d5 hwn
            have d6 := dsk_step b5 d6 hwn
            have hy := byt_step b5 hy hwn
            have b1 := oth_step b1 h15 hwn
            have b6 := oth_step b6 h56 hwn
            have b5 := set_step b5 hwn
            have hx2 : Below w2.heap.size w2 wn := by rw [← hwn]; exact (hx2.setCell h5 _).setCell h5 _
            clear hwn
            refine mixLast 7 (by kernel_rfl) (by kernel_rfl) (by kernel_rfl) (by rfl) (by rfl) (fun K hK => ?_)
            have hK' := Lib.hid hK
            clear hK
            obtain ⟨x0, x1⟩ := b6.cells2
            have xz := b6.free
            go_wp2
            refine hK'.out _ _ ?_
            clear hK' K x0 x1 xz
            generalize hwn : World.setCell (World.setCell _ _ _) _ _ = wn
            have d1 := dsk_step b6 d1 hwn
            have d5 := dsk_step b6 d5 hwn
            have d6 := dsk_step b6 d6 hwn
            have hy := byt_step b6 hy hwn
            have b1 := oth_step b1 h16 hwn
            have b5 := oth_step b5 h56.symm hwn
            have b6 := set_step b6 hwn
            have hx2 : Below w2.heap.size w2 wn := by rw [← hwn]; exact (hx2.setCell h6 _).setCell h6 _
            clear hwn
            refine NoPanic.normal ?_
            go_wp2_with fail
            go_meet
            exact ⟨b1, d1, ⟨_, _, _, _, _, _, _, rfl, b5, d5⟩, ⟨_, _, _, _, _, _, _, rfl, b6, d6⟩, hy, ext_trans hx hx2⟩
      · skip
        go_wp2
        refine hK.out _ _ ((ext_alloc _ _).mono hz) ?_
        clear hK K
        try simp only [Act.put, List.setIfInBounds_toArray, List.set_cons_zero, List.set_cons_succ]
        generalize hwn : World.alloc _ (Obj.cells #[.slice none 0 0, .slice none 0 0] 46) = wn
        have he := alloc_step hwn
        have h5 := hz
        have h15 := Nat.ne_of_lt b1.lt
        try (have h56 := Nat.ne_of_lt b6.lt)
        have hz := Nat.le_trans hz he.size
        have hx2 := ext_trans hx2 he
        have b1 := b1.ext he
        have d1 := d1.ext he
        have hy := hy.kept (T := []) (.ext he)
        try (have b5 := b5.ext he)
        try (have b6 := b6.ext he)
        try (have d5 := d5.ext he)
        try (have d6 := d6.ext he)
        clear he
        have b5 := box_step hwn
        clear hwn
        refine mixS2 1 5 (by kernel_rfl) (by kernel_rfl) (by rfl) (by rfl) (by rfl) (by rfl) (fun K hK => ?_) (fun K hK => ?_)
        · skip
          go_wp2_with (go_at_call 54; refine (dskKeep_v (k := 0) d1 aOk aIn).mono ?_; rintro e wn ⟨v5, rfl, o5, he⟩)
          refine hK.out _ _ (he.mono hz) ?_
          clear hK K
          try simp only [Act.put, List.setIfInBounds_toArray, List.set_cons_zero, List.set_cons_succ]
          have hz := Nat.le_trans hz he.size
          have hx2 := ext_trans hx2 he
          have b1 := b1.ext he
          have d1 := d1.ext he
          have hy := hy.kept (T := []) (.ext he)
          try (have b5 := b5.ext he)
          try (have b6 := b6.ext he)
          try (have d5 := d5.ext he)
          try (have d6 := d6.ext he)
          clear he
          have d5 := o5.v
          clear o5
          obtain ⟨A5, n5, c5, E5, m5, e5, rfl⟩ := d5.parts
          refine mixS2 3 5 (by kernel_rfl) (by kernel_rfl) (by rfl) (by rfl) (by rfl) (by rfl) (fun K hK => ?_) (fun K hK => ?_)
          · skip
            go_wp2_with (go_at_call 56; refine (dskFlush_v d1 aOk aIn).mono ?_; rintro e wn ⟨v6, rfl, o6, he⟩)
            refine hK.out _ _ (he.mono hz) ?_
            clear hK K
            try simp only [Act.put, List.setIfInBounds_toArray, List.set_cons_zero, List.set_cons_succ]
            have hz := Nat.le_trans hz he.size
            have hx2 := ext_trans hx2 he
            have b1 := b1.ext he
            have d1 := d1.ext he
            have hy := hy.kept (T := []) (.ext he)
            try (have b5 := b5.ext he)
            try (have b6 := b6.ext he)
            try (have d5 := d5.ext he)
            try (have d6 := d6.ext he)
            clear he
            have d6 := o6.v
            clear o6
            obtain ⟨A6, n6, c6, E6, m6, e6, rfl⟩ := d6.parts
            refine mixS 5 (by kernel_rfl) (by kernel_rfl) (by rfl) (by rfl) (fun K hK => ?_)
            go_wp2
            refine hK.out _ _ ((ext_alloc _ _).mono hz) ?_
            clear hK K
            try simp only [Act.put, List.setIfInBounds_toArray, List.set_cons_zero, List.set_cons_succ]
            generalize hwn : World.alloc _ (Obj.cells #[.slice none 0 0, .slice none 0 0] 46) = wn
            have he := alloc_step hwn
            have h6 := hz
            have h16 := Nat.ne_of_lt b1.lt
            try (have h56 := (Nat.ne_of_lt b5.lt).symm)
            have hz := Nat.le_trans hz he.size
            have hx2 := ext_trans hx2 he
            have b1 := b1.ext he
            have d1 := d1.ext he
            have hy := hy.kept (T := []) (.ext he)
            try (have b5 := b5.ext he)
            try (have b6 := b6.ext he)
            try (have d5 := d5.ext he)
            try (have d6 := d6.ext he)
            clear he
            have b6 := box_step hwn
            clear hwn
            refine mixS 6 (by kernel_rfl) (by kernel_rfl) (by rfl) (by rfl) (fun K hK => ?_)
            obtain ⟨x0, x1⟩ := b5.cells2
            have xz := b5.free
            go_wp2
            refine hK.out _ _ (((Below.refl _ _).setCell h5 _).setCell h5 _) ?_
            clear hK K x0 x1 xz
            try simp only [Act.put, List.setIfInBounds_toArray, List.set_cons_zero, List.set_cons_succ]
            generalize hwn : World.setCell (World.setCell _ _ _) _ _ = wn
            have d1 := dsk_step b5 d1 hwn
            have d5 := dsk_step b5 d5 hwn
            have d6 := dsk_step b5 d6 hwn
            have hy := byt_step b5 hy hwn
            have b1 := oth_step b1 h15 hwn
            have b6 := oth_step b6 h56 hwn
            have b5 := set_step b5 hwn
            have hx2 : Below w2.heap.size w2 wn := by rw [← hwn]; exact (hx2.setCell h5 _).setCell h5 _
            clear hwn
            refine mixLast 7 (by kernel_rfl) (by kernel_rfl) (by kernel_rfl) (by rfl) (by rfl) (fun K hK => ?_)
            have hK' := Lib.hid hK
            clear hK
            obtain ⟨x0, x1⟩ := b6.cells2
            have xz := b6.free
            go_wp2
            refine hK'.out _ _ ?_
            clear hK' K x0 x1 xz
            generalize hwn : World.setCell (World.setCell _ _ _) _ _ = wn
            have d1 := dsk_step b6 d1 hwn
            have d5 := dsk_step b6 d5 hwn
            have d6 := dsk_step b6 d6 hwn
            have hy := byt_step b6 hy hwn
            have b1 := oth_step b1 h16 hwn
            have b5 := oth_step b5 h56.symm hwn
            have b6 := set_step b6 hwn
            have hx2 : Below w2.heap.size w2 wn := by rw [← hwn]; exact (hx2.setCell h6 _).setCell h6 _
            clear hwn
            refine NoPanic.normal ?_
            go_wp2_with fail
            go_meet
            exact ⟨b1, d1, ⟨_, _, _, _, _, _, _, rfl, b5, d5⟩, ⟨_, _, _, _, _, _, _, rfl, b6, d6⟩, hy, ext_trans hx hx2⟩
          · skip
            go_wp2
            refine hK.out _ _ ((ext_alloc _ _).mono hz) ?_
            clear hK K
            try simp only [Act.put, List.setIfInBounds_toArray, List.set_cons_zero, List.set_cons_succ]
            generalize hwn : World.alloc _ (Obj.cells #[.slice none 0 0, .slice none 0 0] 46) = wn
            have he := alloc_step hwn
            have h6 := hz
            have h16 := Nat.ne_of_lt b1.lt
            try (have h56 := (Nat.ne_of_lt b5.lt).symm)
            have hz := Nat.le_trans hz he.size
            have hx2 := ext_trans hx2 he
            have b1 := b1.ext he
            have d1 := d1.ext he
            have hy := hy.kept (T := []) (.ext he)
            try (have b5 := b5.ext he)
            try (have b6 := b6.ext he)
            try (have d5 := d5.ext he)
            try (have d6 := d6.ext he)
            clear he
            have b6 := box_step hwn
            clear hwn
            refine mixS 3 (by kernel_rfl) (by kernel_rfl) (by rfl) (by rfl) (fun K hK => ?_)
            go_wp2_with (go_at_call 56; refine (dskFlush_v d1 aOk aIn).mono ?_; rintro e wn ⟨v6, rfl, o6, he⟩)
            refine hK.out _ _ (he.mono hz) ?_
            clear hK K
            try simp only [Act.put, List.setIfInBounds_toArray, List.set_cons_zero, List.set_cons_succ]
            have hz := Nat.le_trans hz he.size
            have hx2 := ext_trans hx2 he
            have b1 := b1.ext he
            have d1 := d1.ext he
            have hy := hy.kept (T := []) (.ext he)
            try (have b5 := b5.ext he)
            try (have b6 := b6.ext he)
            try (have d5 := d5.ext he)
            try (have d6 := d6.ext he)
            clear he
            have d6 := o6.v
            clear o6
            obtain ⟨A6, n6, c6, E6, m6, e6, rfl⟩ := d6.parts
            refine mixS 6 (by kernel_rfl) (by kernel_rfl) (by rfl) (by rfl) (fun K hK => ?_)
            obtain ⟨x0, x1⟩ := b5.cells2
            have xz := b5.free
            go_wp2
            refine hK.out _ _ (((Below.refl _ _).setCell h5 _).setCell h5 _) ?_
            clear hK K x0 x1 xz
            try simp only [Act.put, List.setIfInBounds_toArray, List.set_cons_zero, List.set_cons_succ]
            generalize hwn : World.setCell (World.setCell _ _ _) _ _ = wn
            have d1 := dsk_step b5 d1 hwn
            have d5 := dsk_step b5 d5 hwn
            have d6 := dsk_step b5 d6 hwn
            have hy := byt_step b5 hy hwn
            have b1 := oth_step b1 h15 hwn
            have b6 := oth_step b6 h56 hwn
            have b5 := set_step b5 hwn
            have hx2 : Below w2.heap.size w2 wn := by rw [← hwn]; exact (hx2.setCell h5 _).setCell h5 _
            clear hwn
            refine mixLast 7 (by kernel_rfl) (by kernel_rfl) (by kernel_rfl) (by rfl) (by rfl) (fun K hK => ?_)
            have hK' := Lib.hid hK
            clear hK
            obtain ⟨x0, x1⟩ := b6.cells2
            have xz := b6.free
            go_wp2
            refine hK'.out _ _ ?_
            clear hK' K x0 x1 xz
            generalize hwn : World.setCell (World.setCell _ _ _) _ _ = wn
            have d1 := dsk_step b6 d1 hwn
            have d5 := dsk_step b6 d5 hwn
            have d6 := dsk_step b6 d6 hwn
            have hy := byt_step b6 hy hwn
            have b1 := oth_step b1 h16 hwn
            have b5 := oth_step b5 h56.symm hwn
            have b6 := set_step b6 hwn
            have hx2 : Below w2.heap.size w2 wn := by rw [← hwn]; exact (hx2.setCell h6 _).setCell h6 _
            clear hwn
            refine NoPanic.normal ?_
            go_wp2_with fail
            go_meet
            exact ⟨b1, d1, ⟨_, _, _, _, _, _, _, rfl, b5, d5⟩, ⟨_, _, _, _, _, _, _, rfl, b6, d6⟩, hy, ext_trans hx hx2⟩
        · skip
          go_wp2
          refine hK.out _ _ ((ext_alloc _ _).mono hz) ?_
          clear hK K
          try simp only [Act.put, List.setIfInBounds_toArray, List.set_cons_zero, List.set_cons_succ]
          generalize hwn : World.alloc _ (Obj.cells #[.slice none 0 0, .slice none 0 0] 46) = wn
          have he := alloc_step hwn
          have h6 := hz
          have h16 := Nat.ne_of_lt b1.lt
          try (have h56 := (Nat.ne_of_lt b5.lt).symm)
          have hz := Nat.le_trans hz he.size
          have hx2 := ext_trans hx2 he
          have b1 := b1.ext he
          have d1 := d1.ext he
          have hy := hy.kept (T := []) (.ext he)
          try (have b5 := b5.ext he)
          try (have b6 := b6.ext he)
          try (have d5 := d5.ext he)
          try (have d6 := d6.ext he)
          clear he
          have b6 := box_step hwn
          clear hwn
          refine mixS 1 (by kernel_rfl) (by kernel_rfl) (by rfl) (by rfl) (fun K hK => ?_)
          go_wp2_with (go_at_call 54; refine (dskKeep_v (k := 0) d1 aOk aIn).mono ?_; rintro e wn ⟨v5, rfl, o5, he⟩)
          refine hK.out _ _ (he.mono hz) ?_
          clear hK K
          try simp only [Act.put, List.setIfInBounds_toArray, List.set_cons_zero, List.set_cons_succ]
          have hz := Nat.le_trans hz he.size
          have hx2 := ext_trans hx2 he
          have b1 := b1.ext he
          have d1 := d1.ext he
          have hy := hy.kept (T := []) (.ext he)
          try (have b5 := b5.ext he)
          try (have b6 := b6.ext he)
          try (have d5 := d5.ext he)
          try (have d6 := d6.ext he)
          clear he
          have d5 := o5.v
          clear o5
          obtain ⟨A5, n5, c5, E5, m5, e5, rfl⟩ := d5.parts
          refine mixS 3 (by kernel_rfl) (by kernel_rfl) (by rfl) (by rfl) (fun K hK => ?_)
          go_wp2_with (go_at_call 56; refine (dskFlush_v d1 aOk aIn).mono ?_; rintro e wn ⟨v6, rfl, o6, he⟩)
          refine hK.out _ _ (he.mono hz) ?_
          clear hK K
          try simp only [Act.put, List.setIfInBounds_toArray, List.set_cons_zero, List.set_cons_succ]
          have hz := Nat.le_trans hz he.size
          have hx2 := ext_trans hx2 he
          have b1 := b1.ext he
          have d1 := d1.ext he
          have hy := hy.kept (T := []) (.ext he)
          try (have b5 := b5.ext he)
          try (have b6 := b6.ext he)
          try (have d5 := d5.ext he)
          try (have d6 := d6.ext he)
          clear he
          have d6 := o6.v
          clear o6
          obtain ⟨A6, n6, c6, E6, m6, e6, rfl⟩ := d6.parts
          refine mixS 6 (by kernel_rfl) (by kernel_rfl) (by rfl) (by rfl) (fun K hK => ?_)
          obtain ⟨x0, x1⟩ := b5.cells2
          have xz := b5.free
          go_wp2
          refine hK.out _ _ (((Below.refl _ _).setCell h5 _).setCell h5 _) ?_
          clear hK K x0 x1 xz
          try simp only [Act.put, List.setIfInBounds_toArray, List.set_cons_zero, List.set_cons_succ]
          generalize hwn : World.setCell (World.setCell _ _ _) _ _ = wn
          have d1 := dsk_step b5 d1 hwn
          have d5 := dsk_step b5 d5 hwn
          have d6 := dsk_step b5 d6 hwn
          have hy := byt_step b5 hy hwn
          have b1 := oth_step b1 h15 hwn
          have b6 := oth_step b6 h56 hwn
          have b5 := set_step b5 hwn
          have hx2 : Below w2.heap.size w2 wn := by rw [← hwn]; exact (hx2.setCell h5 _).setCell h5 _
          clear hwn
          refine mixLast 7 (by kernel_rfl) (by kernel_rfl) (by kernel_rfl) (by rfl) (by rfl) (fun K hK => ?_)
          have hK' := Lib.hid hK
          clear hK
          obtain ⟨x0, x1⟩ := b6.cells2
          have xz := b6.free
          go_wp2
          refine hK'.out _ _ ?_
          clear hK' K x0 x1 xz
          generalize hwn : World.setCell (World.setCell _ _ _) _ _ = wn
          have d1 := dsk_step b6 d1 hwn
          have d5 := dsk_step b6 d5 hwn
          have d6 := dsk_step b6 d6 hwn
          have hy := byt_step b6 hy hwn
          have b1 := oth_step b1 h16 hwn
          have b5 := oth_step b5 h56.symm hwn
          have b6 := set_step b6 hwn
          have hx2 : Below w2.heap.size w2 wn := by rw [← hwn]; exact (hx2.setCell h6 _).setCell h6 _
          clear hwn
          refine NoPanic.normal ?_
          go_wp2_with fail
          go_meet
          exact ⟨b1, d1, ⟨_, _, _, _, _, _, _, rfl, b5, d5⟩, ⟨_, _, _, _, _, _, _, rfl, b6, d6⟩, hy, ext_trans hx hx2⟩
      · skip
        go_wp2
        refine hK.out _ _ ((ext_alloc _ _).mono hz) ?_
        clear hK K
        try simp only [Act.put, List.setIfInBounds_toArray, List.set_cons_zero, List.set_cons_succ]
        generalize hwn : World.alloc _ (Obj.cells #[.slice none 0 0, .slice none 0 0] 46) = wn
        have he := alloc_step hwn
        have h6 := hz
        have h16 := Nat.ne_of_lt b1.lt
        try (have h56 := (Nat.ne_of_lt b5.lt).symm)
        have hz := Nat.le_trans hz he.size
        have hx2 := ext_trans hx2 he
        have b1 := b1.ext he
        have d1 := d1.ext he
        have hy := hy.kept (T := []) (.ext he)
        try (have b5 := b5.ext he)
        try (have b6 := b6.ext he)
        try (have d5 := d5.ext he)
        try (have d6 := d6.ext he)
        clear he
        have b6 := box_step hwn
        clear hwn
        refine mixS2 1 4 (by kernel_rfl) (by kernel_rfl) (by rfl) (by rfl) (by rfl) (by rfl) (fun K hK => ?_) (fun K hK => ?_)
        · skip
          go_wp2_with (go_at_call 54; refine (dskKeep_v (k := 0) d1 aOk aIn).mono ?_; rintro e wn ⟨v5, rfl, o5, he⟩)
          refine hK.out _ _ (he.mono hz) ?_
          clear hK K
          try simp only [Act.put, List.setIfInBounds_toArray, List.set_cons_zero, List.set_cons_succ]
          have hz := Nat.le_trans hz he.size
          have hx2 := ext_trans hx2 he
          have b1 := b1.ext he
          have d1 := d1.ext he
          have hy := hy.kept (T := []) (.ext he)
          try (have b5 := b5.ext he)
          try (have b6 := b6.ext he)
          try (have d5 := d5.ext he)
          try (have d6 := d6.ext he)
          clear he
          have d5 := o5.v
          clear o5
          obtain ⟨A5, n5, c5, E5, m5, e5, rfl⟩ := d5.parts
          refine mixS2 3 4 (by kernel_rfl) (by kernel_rfl) (by rfl) (by rfl) (by rfl) (by rfl) (fun K hK => ?_) (fun K hK => ?_)
          · skip
            go_wp2_with (go_at_call 56; refine (dskFlush_v d1 aOk aIn).mono ?_; rintro e wn ⟨v6, rfl, o6, he⟩)
            refine hK.out _ _ (he.mono hz) ?_
            clear hK K
            try simp only [Act.put, List.setIfInBounds_toArray, List.set_cons_zero, List.set_cons_succ]
            have hz := Nat.le_trans hz he.size
            have hx2 := ext_trans hx2 he
            have b1 := b1.ext he
            have d1 := d1.ext he
            have hy := hy.kept (T := []) (.ext he)
            try (have b5 := b5.ext he)
            try (have b6 := b6.ext he)
            try (have d5 := d5.ext he)
            try (have d6 := d6.ext he)
            clear he
            have d6 := o6.v
            clear o6
            obtain ⟨A6, n6, c6, E6, m6, e6, rfl⟩ := d6.parts
            refine mixS 4 (by kernel_rfl) (by kernel_rfl) (by rfl) (by rfl) (fun K hK => ?_)
            go_wp2
            refine hK.out _ _ ((ext_alloc _ _).mono hz) ?_
            clear hK K
            try simp only [Act.put, List.setIfInBounds_toArray, List.set_cons_zero, List.set_cons_succ]
            generalize hwn : World.alloc _ (Obj.cells #[.slice none 0 0, .slice none 0 0] 46) = wn
            have he := alloc_step hwn
            have h5 := hz
            have h15 := Nat.ne_of_lt b1.lt
            try (have h56 := Nat.ne_of_lt b6.lt)
            have hz := Nat.le_trans hz he.size
            have hx2 := ext_trans hx2 he
            have b1 := b1.ext he
            have d1 := d1.ext he
            have hy := hy.kept (T := []) (.ext he)
            try (have b5 := b5.ext he)
            try (have b6 := b6.ext he)
            try (have d5 := d5.ext he)
            try (have d6 := d6.ext he)
            clear he
            have b5 := box_step hwn
            clear hwn
            refine mixS 6 (by kernel_rfl) (by kernel_rfl) (by rfl) (by rfl) (fun K hK => ?_)
            obtain ⟨x0, x1⟩ := b5.cells2
            have xz := b5.free
            go_wp2
            refine hK.out _ _ (((Below.refl _ _).setCell h5 _).setCell h5 _) ?_
            clear hK K x0 x1 xz
            try simp only [Act.put, List.setIfInBounds_toArray, List.set_cons_zero, List.set_cons_succ]
            generalize hwn : World.setCell (World.setCell _ _ _) _ _ = wn
            have d1 := dsk_step b5 d1 hwn
            have d5 := dsk_step b5 d5 hwn
            have d6 := dsk_step b5 d6 hwn
            have hy := byt_step b5 hy hwn
            have b1 := oth_step b1 h15 hwn
            have b6 := oth_step b6 h56 hwn
            have b5 := set_step b5 hwn
            have hx2 : Below w2.heap.size w2 wn := by rw [← hwn]; exact (hx2.setCell h5 _).setCell h5 _
            clear hwn
            refine mixLast 7 (by kernel_rfl) (by kernel_rfl) (by kernel_rfl) (by rfl) (by rfl) (fun K hK => ?_)
            have hK' := Lib.hid hK
            clear hK
            obtain ⟨x0, x1⟩ := b6.cells2
            have xz := b6.free
            go_wp2
            refine hK'.out _ _ ?_
            clear hK' K x0 x1 xz
            generalize hwn : World.setCell (World.setCell _ _ _) _ _ = wn
            have d1 := dsk_step b6 d1 hwn
            have d5 := dsk_step b6 d5 hwn
            have d6 := dsk_step b6 d6 hwn
            have hy := byt_step b6 hy hwn
            have b1 := oth_step b1 h16 hwn
            have b5 := oth_step b5 h56.symm hwn
            have b6 := set_step b6 hwn
            have hx2 : Below w2.heap.size w2 wn := by rw [← hwn]; exact (hx2.setCell h6 _).setCell h6 _
            clear hwn
            refine NoPanic.normal ?_
            go_wp2_with fail
            go_meet
            exact ⟨b1, d1, ⟨_, _, _, _, _, _, _, rfl, b5, d5⟩, ⟨_, _, _, _, _, _, _, rfl, b6, d6⟩, hy, ext_trans hx hx2⟩
          · skip
            go_wp2
            refine hK.out _ _ ((ext_alloc _ _).mono hz) ?_
            clear hK K
            try simp only [Act.put, List.setIfInBounds_toArray, List.set_cons_zero, List.set_cons_succ]
            generalize hwn : World.alloc _ (Obj.cells #[.slice none 0 0, .slice none 0 0] 46) = wn
            have he := alloc_step hwn
            have h5 := hz
            have h15 := Nat.ne_of_lt b1.lt
            try (have h56 := Nat.ne_of_lt b6.lt)
            have hz := Nat.le_trans hz he.size
            have hx2 := ext_trans hx2 he
            have b1 := b1.ext he
            have d1 := d1.ext he
            have hy := hy.kept (T := []) (.ext he)
            try (have b5 := b5.ext he)
            try (have b6 := b6.ext he)
            try (have d5 := d5.ext he)
            try (have d6 := d6.ext he)
            clear he
            have b5 := box_step hwn
            clear hwn
            refine mixS 3 (by kernel_rfl) (by kernel_rfl) (by rfl) (by rfl) (fun K hK => ?_)
            go_wp2_with (go_at_call 56; refine (dskFlush_v d1 aOk aIn).mono ?_; rintro e wn ⟨v6, rfl, o6, he⟩)
            refine hK.out _ _ (he.mono hz) ?_
            clear hK K
            try simp only [Act.put, List.setIfInBounds_toArray, List.set_cons_zero, List.set_cons_succ]
            have hz := Nat.le_trans hz he.size
            have hx2 := ext_trans hx2 he
            have b1 := b1.ext he
            have d1 := d1.ext he
            have hy := hy.kept (T := []) (.ext he)
            try (have b5 := b5.ext he)
            try (have b6 := b6.ext he)
            try (have d5 := d5.ext he)
            try (have d6 := d6.ext he)
            clear he
            have d6 := o6.v
            clear o6
            obtain ⟨A6, n6, c6, E6, m6, e6, rfl⟩ := d6.parts
            refine mixS 6 (by kernel_rfl) (by kernel_rfl) (by rfl) (by rfl) (fun K hK => ?_)
            obtain ⟨x0, x1⟩ := b5.cells2
            have xz := b5.free
            go_wp2
            refine hK.out _ _ (((Below.refl _ _).setCell h5 _).setCell h5 _) ?_
            clear hK K x0 x1 xz
            try simp only [Act.put, List.setIfInBounds_toArray, List.set_cons_zero, List.set_cons_succ]
            generalize hwn : World.setCell (World.setCell _ _ _) _ _ = wn
            have d1 := dsk_step b5 d1 hwn
            have d5 := dsk_step b5 d5 hwn
            have d6 := dsk_step b5 d6 hwn
            have hy := byt_step b5 hy hwn
            have b1 := oth_step b1 h15 hwn
            have b6 := oth_step b6 h56 hwn
            have b5 := set_step b5 hwn
            have hx2 : Below w2.heap.size w2 wn := by rw [← hwn]; exact (hx2.setCell h5 _).setCell h5 _
            clear hwn
            refine mixLast 7 (by kernel_rfl) (by kernel_rfl) (by kernel_rfl) (by rfl) (by rfl) (fun K hK => ?_)
            have hK' := Lib.hid hK
            clear hK
            obtain ⟨x0, x1⟩ := b6.cells2
            have xz := b6.free
            go_wp2
            refine hK'.out _ _ ?_
            clear hK' K x0 x1 xz
            generalize hwn : World.setCell (World.setCell _ _ _) _ _ = wn
            have d1 := dsk_step b6 d1 hwn
            have d5 := dsk_step b6 d5 hwn
            have d6 := dsk_step b6 d6 hwn
            have hy := byt_step b6 hy hwn
            have b1 := oth_step b1 h16 hwn
            have b5 := oth_step b5 h56.symm hwn
            have b6 := set_step b6 hwn
            have hx2 : Below w2.heap.size w2 wn := by rw [← hwn]; exact (hx2.setCell h6 _).setCell h6 _
            clear hwn
            refine NoPanic.normal ?_
            go_wp2_with fail
            go_meet
            exact ⟨b1, d1, ⟨_, _, _, _, _, _, _, rfl, b5, d5⟩, ⟨_, _, _, _, _, _, _, rfl, b6, d6⟩, hy, ext_trans hx hx2⟩
        · skip
          go_wp2
          refine hK.out _ _ ((ext_alloc _ _).mono hz) ?_
          clear hK K
          try simp only [Act.put, List.setIfInBounds_toArray, List.set_cons_zero, List.set_cons_succ]
          generalize hwn : World.alloc _ (Obj.cells #[.slice none 0 0, .slice none 0 0] 46) = wn
          have he := alloc_step hwn
          have h5 := hz
          have h15 := Nat.ne_of_lt b1.lt
          try (have h56 := Nat.ne_of_lt b6.lt)
          have hz := Nat.le_trans hz he.size
          have hx2 := ext_trans hx2 he
          have b1 := b1.ext he
          have d1 := d1.ext he
          have hy := hy.kept (T := []) (.ext he)
          try (have b5 := b5.ext he)
          try (have b6 := b6.ext he)
          try (have d5 := d5.ext he)
          try (have d6 := d6.ext he)
          clear he
          have b5 := box_step hwn
          clear hwn
          refine mixS 1 (by kernel_rfl) (by kernel_rfl) (by rfl) (by rfl) (fun K hK => ?_)
          go_wp2_with (go_at_call 54; refine (dskKeep_v (k := 0) d1 aOk aIn).mono ?_; rintro e wn ⟨v5, rfl, o5, he⟩)
          refine hK.out _ _ (he.mono hz) ?_
          clear hK K
          try simp only [Act.put, List.setIfInBounds_toArray, List.set_cons_zero, List.set_cons_succ]
          have hz := Nat.le_trans hz he.size
          have hx2 := ext_trans hx2 he
          have b1 := b1.ext he
          have d1 := d1.ext he
          have hy := hy.kept (T := []) (.ext he)
          try (have b5 := b5.ext he)
          try (have b6 := b6.ext he)
          try (have d5 := d5.ext he)
          try (have d6 := d6.ext he)
          clear he
          have d5 := o5.v
          clear o5
          obtain ⟨A5, n5, c5, E5, m5, e5, rfl⟩ := d5.parts
          refine mixS 3 (by kernel_rfl) (by kernel_rfl) (by rfl) (by rfl) (fun K hK => ?_)
          go_wp2_with (go_at_call 56; refine (dskFlush_v d1 aOk aIn).mono ?_; rintro e wn ⟨v6, rfl, o6, he⟩)
          refine hK.out _ _ (he.mono hz) ?_
          clear hK K
          try simp only [Act.put, List.setIfInBounds_toArray, List.set_cons_zero, List.set_cons_succ]
          have hz := Nat.le_trans hz he.size
          have hx2 := ext_trans hx2 he
          have b1 := b1.ext he
          have d1 := d1.ext he
          have hy := hy.kept (T := []) (.ext he)
          try (have b5 := b5.ext he)
          try (have b6 := b6.ext he)
          try (have d5 := d5.ext he)
          try (have d6 := d6.ext he)
          clear he
          have d6 := o6.v
          clear o6
          obtain ⟨A6, n6, c6, E6, m6, e6, rfl⟩ := d6.parts
          refine mixS 6 (by kernel_rfl) (by kernel_rfl) (by rfl) (by rfl) (fun K hK => ?_)
          obtain ⟨x0, x1⟩ := b5.cells2
          have xz := b5.free
          go_wp2
          refine hK.out _ _ (((Below.refl _ _).setCell h5 _).setCell h5 _) ?_
          clear hK K x0 x1 xz
          try simp only [Act.put, List.setIfInBounds_toArray, List.set_cons_zero, List.set_cons_succ]
          generalize hwn : World.setCell (World.setCell _ _ _) _ _ = wn
          have d1 := dsk_step b5 d1 hwn
          have d5 := dsk_step b5 d5 hwn
          have d6 := dsk_step b5 d6 hwn
          have hy := byt_step b5 hy hwn
          have b1 := oth_step b1 h15 hwn
          have b6 := oth_step b6 h56 hwn
          have b5 := set_step b5 hwn
          have hx2 : Below w2.heap.size w2 wn := by rw [← hwn]; exact (hx2.setCell h5 _).setCell h5 _
          clear hwn
          refine mixLast 7 (by kernel_rfl) (by kernel_rfl) (by kernel_rfl) (by rfl) (by rfl) (fun K hK => ?_)
          have hK' := Lib.hid hK
          clear hK
          obtain ⟨x0, x1⟩ := b6.cells2
          have xz := b6.free
          go_wp2
          refine hK'.out _ _ ?_
          clear hK' K x0 x1 xz
          generalize hwn : World.setCell (World.setCell _ _ _) _ _ = wn
          have d1 := dsk_step b6 d1 hwn
          have d5 := dsk_step b6 d5 hwn
          have d6 := dsk_step b6 d6 hwn
          have hy := byt_step b6 hy hwn
          have b1 := oth_step b1 h16 hwn
          have b5 := oth_step b5 h56.symm hwn
          have b6 := set_step b6 hwn
          have hx2 : Below w2.heap.size w2 wn := by rw [← hwn]; exact (hx2.setCell h6 _).setCell h6 _
          clear hwn
          refine NoPanic.normal ?_
          go_wp2_with fail
          go_meet
          exact ⟨b1, d1, ⟨_, _, _, _, _, _, _, rfl, b5, d5⟩, ⟨_, _, _, _, _, _, _, rfl, b6, d6⟩, hy, ext_trans hx hx2⟩
    case rest =>
      obtain ⟨b1, d1, ⟨g5, A5, n5, c5, E5, m5, e5, rfl, b5, d5⟩, ⟨g6, A6, n6, c6, E6, m6, e6, rfl, b6, d6⟩, hy, hx⟩ := hcut
      obtain ⟨y0, y1⟩ := b6.cells2
      have ok6 : DskOk (dFlush aD1) := by
        refine ⟨by decide, by decide, fun i => ?_, fun i => by simp [dFlush]⟩
        rcases Nat.lt_or_ge i 12 with h | h
        · have : ∀ i : Fin 12, ((dFlush aD1).blocks.getD i.1 []).length ≤ 4096 := by decide +kernel
          exact this ⟨i, h⟩
        · rw [List.getD_eq_getElem?_getD, List.getElem?_eq_none (by rw [show (dFlush aD1).blocks.length = 12 from rfl]; exact h)]
          simp
      go_wp2_with fail
      refine (dskSpoil_v (k := 3) (n := 0) (y := 5) d6 ok6).mono ?_
      rintro e7 w7 ⟨v7, rfl, o7, he⟩
      have d7 := o7.v
      obtain ⟨A7, n7, c7, E7, m7, e7, rfl⟩ := d7.parts
      have hx := ext_trans hx he
      have b1 := b1.ext he
      have d1 := d1.ext he
      have b5 := b5.ext he
      have d5 := d5.ext he
      have b6 := b6.ext he
      have d6 := d6.ext he
      have hy := hy.kept (T := []) (.ext he)
      clear he y0 y1 o7 ok6
      go_upto_region 5 with (fail)
      generalize hwn : World.alloc _ (Obj.cells #[.slice A7 n7 c7, .slice E7 m7 e7] 46) = wn
      have he := alloc_step hwn
      have b7 := box_step hwn
      clear hwn
      generalize w7.heap.size = g7 at b7 ⊢
      have hx := ext_trans hx he
      have b1 := b1.ext he
      have d1 := d1.ext he
      have b5 := b5.ext he
      have d5 := d5.ext he
      have b6 := b6.ext he
      have d6 := d6.ext he
      have d7 := d7.ext he
      have hy := hy.kept (T := []) (.ext he)
      clear he
      obtain ⟨p0, p1⟩ := b1.cells2
      obtain ⟨q0, q1⟩ := b5.cells2
      obtain ⟨r0, r1⟩ := b6.cells2
      obtain ⟨s0, s1⟩ := b7.cells2
      have e1m := d1.late1
      rw [show aD1.late.length = 1 from rfl] at e1m
      subst e1m
      obtain ⟨k5, k6, k7, l5, l6, l7⟩ := aKl
      obtain ⟨h5, h6, h7⟩ := aK
      obtain ⟨a5, o5, a5', o5', u5, t5, rfl, i5, ca5, j5, cb5⟩ := d5.byte k5 l5
      obtain ⟨a6, o6, a6', o6', u6, t6, rfl, i6, ca6, j6, cb6⟩ := d6.byte k6 l6
      obtain ⟨a7, o7, a7', o7', u7, t7, rfl, i7, ca7, j7, cb7⟩ := d7.byte k7 l7
      rw [h5] at cb5
      rw [h6] at cb6
      rw [h7] at cb7
      rw [Nat.add_zero] at cb5 cb6 cb7
      obtain ⟨_, _, _, ey, hyb, _⟩ := hy.form
      injection ey with ey1 ey2 ey3
      subst ey1 ey2 ey3
      have hn3 : n3 = 16 := by have := hyb.len; rw [show zeros16.length = 16 from rfl] at this; exact this.symm
      subst hn3
      obtain ⟨b3, o3, rfl, _, c3y⟩ := hyb.at_ (k := 0) (by omega)
      have cb3 := c3y 0 (by omega)
      rw [show zeros16.getD 0 0 = 0 from rfl, Nat.add_zero] at cb3
      have z5 : (0 : Int) < (u5 : Int) := by omega
      have z6 : (0 : Int) < (u6 : Int) := by omega
      have z7 : (0 : Int) < (u7 : Int) := by omega
      have y5 : (3 : Int) < (n5 : Int) := by omega
      have y6 : (3 : Int) < (n6 : Int) := by omega
      have y7 : (3 : Int) < (n7 : Int) := by omega
      clear h5 h6 h7 k5 k6 k7 l5 l6 l7 c3y hyb hy d5 d6 d7
      go_wp2_with fail
      refine (dskOwn_v d1 aOk).mono ?_
      rintro e9 w9 ⟨v9, rfl, o9, he⟩
      have d9 := o9.v
      obtain ⟨A9, n9, c9, E9, m9, e9, rfl⟩ := d9.parts
      have e9m := d9.late1
      rw [show aD1.late.length = 1 from rfl] at e9m
      subst e9m
      have hx := ext_trans hx he
      have hfld : (Instr.field 46 (.agg #[.slice A9 n9 c9, .slice E9 1 e9]) 1).run Try.prog w9 = .ok (.slice E9 1 e9) w9 := by kernel_rfl
      clear he o9 d9 d1
      go_wp2
      go_ret
      exact ⟨rfl, hx⟩

end Go.Proofs.Ytnganglmpcbcbaa
