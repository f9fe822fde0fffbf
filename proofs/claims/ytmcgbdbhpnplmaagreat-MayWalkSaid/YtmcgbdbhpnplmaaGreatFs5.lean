/- Walks: scref6.Clean. -/
import Derived.Test.YtmcgbdbhpnplmaaGreatFs4
namespace Go.Proofs.YtmcgbdbhpnplmaaGreat
open Go Go.RowKit
theorem rcTo_fine {x : Dsk} (hx : Fine x 0) (tw : List Int) : ∀ a : Nat, Fine (rcTo x tw a) 0
 | 0 => hx
 | a + 1 => ((rcTo_fine hx tw a).put (by omega) a _).flush
theorem has_step {l : List Int} {b : Nat} {x : Int} (hb : b < l.length) : (l.take (b + 1)).contains x = ((l.take b).contains x || decide (l.getD b 0 = x)) := by
 rw [take_succ_getD 0 l b hb, List.contains_eq_any_beq, List.contains_eq_any_beq, List.any_append]
 simp only [List.any_cons, List.any_nil, Bool.or_false]
 congr 1
 by_cases h : l.getD b 0 = x
 ·subst h; simp
 ·rw [decide_eq_false h, beq_eq_false_iff_ne]; exact fun e => h e.symm
def RBx (w : World) (g base : Nat) (r : Rec) : Prop := ∃ A n c, Box w g 51 #[.int .i64 r.kind, .int .i64 r.key, .int .i64 r.ver, .slice A n c] ∧ ByT w base (.slice A n c) r.data
theorem tDS' : tD ⊆ tS := by
 intro a h
 simp only [List.mem_cons, List.not_mem_nil, or_false] at h ⊢
 rcases h with h | h <;> simp [h]
set_option maxRecDepth 100000 in
set_option maxHeartbeats 4000000 in
theorem refClean_v {base j : Nat} {v : Value} {d : Dsk} {w : World} (hbase : base ≤ w.heap.size) (h : DskV tS w base v d) (hf : Fine d j) :
  Calls Tryz.prog 78 #[v] w fun e w' => ∃ x tw, e = .returned (.tuple #[x, .agg (repC (scHows (dKeep d 0) 6)), tw]) ∧ DskV tS w' base x (rcTo (dKeep d 0) (tTo (dKeep d 0) 6) 6) ∧ Row eInt [3] w' 0 tw (tTo (dKeep d 0) 6) ∧ Ext w w' := by
 obtain ⟨A, n, c, E, m, e, rfl, HN, HM, hb, hl, hnc, hme⟩ := h.form
 have HF := Lib.hid hf
 clear hb hl HM HN hf
 go_enter Tryz.func78, Tryz.ntmps78
 go_upto_region 1 with (fail)
 generalize hwn : World.alloc (World.alloc (World.alloc w _) _) _ = w1
 have hx : Ext w w1 := by rw [← hwn]; exact ((ext_alloc _ _).alloc (by simp) _).alloc (by simp <;> omega) _
 have b1 : Box w1 w.heap.size 30 #[.slice A n c, .slice E m e] := by rw [← hwn]; exact ((Box.new _ _ _ rfl).alloc _).alloc _
 have b2 : Box w1 (w.heap.size + 1) 30 #[.slice none 0 0, .slice none 0 0] := by rw [← hwn]; exact (Box.new _ _ _ (by simp)).alloc _
 have b3 : Box w1 (w.heap.size + 2) 107 (repC []) := by rw [← hwn]; exact Box.new _ _ _ (by simp)
 clear hwn
 obtain ⟨g1, hg1⟩ : ∃ g, g = w.heap.size := ⟨_, rfl⟩
 obtain ⟨g2, hg2⟩ : ∃ g, g = w.heap.size + 1 := ⟨_, rfl⟩
 obtain ⟨g3, hg3⟩ : ∃ g, g = w.heap.size + 2 := ⟨_, rfl⟩
 rw [← hg3] at b3 ⊢
 rw [← hg2] at b2 ⊢
 rw [← hg1]
 rw [show Box w1 w.heap.size 30 #[.slice A n c, .slice E m e] ↔ Box w1 g1 30 #[.slice A n c, .slice E m e] by rw [hg1]] at b1
 have l1 : w.heap.size ≤ g1 := by omega
 have l2 : g1 < g2 := by omega
 have l3 : g2 < g3 := by omega
 clear hg1 hg2 hg3
 obtain ⟨b1_0, b1_1⟩ := b1.c2
 have b1_z := b1.free
 have b1_l := b1.lt
 go_wp2_with fail
 refine (refKeep_v (k := 0) (tDS') (Nat.le_trans hbase hx.size) (h.ext hx) HF.out.ok HF.out.inn).mono ?_
 rintro e2 w2 ⟨v2, rfl, d1, he⟩
 try clear b1_0 b1_1 b1_z b1_l
 have hx := ext_trans hx he
 have b1 := b1.ext he
 have b2 := b2.ext he
 have b3 := b3.ext he
 clear he
 clear h
 have HX := Lib.hid (HF.out.keep 0)
 obtain ⟨x, hx0⟩ : ∃ x, dKeep d 0 = x := ⟨_, rfl⟩
 rw [hx0] at d1 HX
 have HE1 := Lib.hid hx0
 clear hx0
 obtain ⟨A2, n2, c2, E2, m2, e2, rfl, _, _, _, _, _, _⟩ := d1.form
 obtain ⟨b1_0, b1_1⟩ := b1.c2
 have b1_z := b1.free
 have b1_l := b1.lt
 go_upto_region 2 with (fail)
 try clear b1_0 b1_1 b1_z b1_l
 have k1 := b1.kd
 generalize hwn : World.setCell (World.setCell w2 _ _) _ _ = W
 have b2 : Box W g2 30 #[.slice none 0 0, .slice none 0 0] := by rw [← hwn]; (repeat (with_reducible (first | assumption | refine Box.alloc ?_ _ | refine Box.setOther ?_ (by simp <;> omega) _)))
 have b3 : Box W g3 107 (repC []) := by rw [← hwn]; (repeat (with_reducible (first | assumption | refine Box.alloc ?_ _ | refine Box.setOther ?_ (by simp <;> omega) _)))
 have d1 : DskV tS W base (.agg #[.slice A2 n2 c2, .slice E2 m2 e2]) x := d1.kept (by rw [← hwn]; (repeat (with_reducible (first | assumption | exact Kept.refl _ _ _ | (apply Kept.setK; rotate_left; (repeat (first | assumption | apply Kd.set | apply Kd.alloc | apply Kd.drew)); decide; omega) | refine Kept.allocK ?_ _ | refine Kept.drewK ?_))))
 have hx : Ext w W := by rw [← hwn]; (repeat (with_reducible (first | assumption | exact Below.refl _ _ | refine Below.setCell ?_ (by simp <;> omega) _ | refine Below.alloc ?_ (by simp <;> omega) _ | refine Below.drew ?_ | refine below_drewN ?_ _)))
 have b1 : Box W g1 30 #[.slice A2 n2 c2, .slice E2 m2 e2] := by rw [← hwn]; exact (b1.set 0 _).set 1 _
 clear hwn k1
 go_cut [5, 6] from 16 to 19 (fun t5 t6 wr => ∃ g5, t5 = .pointer (some ⟨g5, 0, none⟩) ∧ g3 < g5 ∧ Box wr g5 107 (repC (scHows x 6)) ∧ Row eInt [3] wr 0 t6 (tTo x 6) ∧ Box wr g1 30 #[.slice A2 n2 c2, .slice E2 m2 e2] ∧ Box wr g2 30 #[.slice none 0 0, .slice none 0 0] ∧ Box wr g3 107 (repC []) ∧ DskV tS wr base (.agg #[.slice A2 n2 c2, .slice E2 m2 e2]) x ∧ Ext w wr)
 case first =>
  have he : Ext W W.drew := (Below.refl _ _).drew
  have hx := ext_trans hx he
  have b1 := b1.ext he
  have b2 := b2.ext he
  have b3 := b3.ext he
  have d1 := d1.ext he
  clear he
  refine wp_region_ue 7 [6] [0, 2, 6] rfl (by kernel_rfl) (by kernel_rfl) ?_
  generalize W.drew = D at hx b1 b2 b3 d1 ⊢
  apply uF 0 (by kernel_rfl) (by rfl) (by rfl) (by rfl)
  ·(intro w' hx; obtain ⟨x0, x1⟩ := (b1.ext hx).c2; go_simp <;> with_reducible rfl)
  simp only [pA, pB, pC, pD]
  apply uF 2 (by kernel_rfl) (by rfl) (by rfl) (by rfl)
  ·(intro w' hx; obtain ⟨x0, x1⟩ := (b1.ext hx).c2; go_simp <;> with_reducible rfl)
  simp only [pA, pB, pC, pD]
  refine uS2 1 4 (by kernel_rfl) (by kernel_rfl) (by rfl) (by rfl) (by rfl) (by rfl) (fun K hK => ?_) (fun K hK => ?_)
  ·skip
   go_wp2_with (go_at_call 111; refine (refReport_v d1 HX.out.ok).mono ?_; rintro e wa ⟨rfl, he⟩)
   refine hK.out _ _ (he) ?_
   clear hK K
   try simp only [pA, pB, pC, pD]
   have hx := ext_trans hx he
   have b1 := b1.ext he
   have b2 := b2.ext he
   have b3 := b3.ext he
   have d1 := d1.ext he
   try (have b5 := b5.ext he)
   clear he
   refine uS2 3 4 (by kernel_rfl) (by kernel_rfl) (by rfl) (by rfl) (by rfl) (by rfl) (fun K hK => ?_) (fun K hK => ?_)
   ·skip
    go_wp2_with (go_at_call 44; refine (refTwice_v d1 HX.out.ok).mono ?_; rintro e wb ⟨v6, rfl, o6, he⟩)
    refine hK.out _ _ (he) ?_
    clear hK K
    try simp only [pA, pB, pC, pD]
    have hx := ext_trans hx he
    have b1 := b1.ext he
    have b2 := b2.ext he
    have b3 := b3.ext he
    have d1 := d1.ext he
    try (have b5 := b5.ext he)
    clear he
    have r6 := o6.row (T := [3]) (base := 0) (by decide) (Nat.le_refl _)
    clear o6
    refine uS 4 (by kernel_rfl) (by kernel_rfl) (by rfl) (by rfl) (fun K hK => ?_)
    go_wp2
    refine hK.out _ _ (ext_alloc _ _) ?_
    clear hK K
    try simp only [pA, pB, pC, pD]
    generalize hwn : World.alloc wb _ = wn
    have he : Ext wb wn := by rw [← hwn]; exact ext_alloc _ _
    have lg5 := b3.lt
    have b5 : Box wn (wb).heap.size 107 (repC []) := by rw [← hwn]; exact Box.new _ _ _ (by simp)
    obtain ⟨g5, hg5⟩ : ∃ g, g = (wb).heap.size := ⟨_, rfl⟩
    rw [← hg5] at b5 lg5 ⊢
    clear hwn hg5
    have hx := ext_trans hx he
    have b1 := b1.ext he
    have b2 := b2.ext he
    have b3 := b3.ext he
    have d1 := d1.ext he
    try (have r6 := r6.ext he)
    clear he
    refine uL 5 (by kernel_rfl) (by kernel_rfl) (by kernel_rfl) (by rfl) (by rfl) (fun K hK => ?_)
    have hK' := Lib.hid hK
    clear hK
    have k5 := b5.kd
    obtain ⟨b5_0, b5_1, b5_2, b5_3, b5_4, b5_5⟩ := b5.c6
    have b5_z := b5.free
    have b5_l := b5.lt
    unfold repC
    go_wp2
    refine hK'.out _ _ ?_
    clear hK' K
    try clear b5_0 b5_1 b5_2 b5_3 b5_4 b5_5 b5_z b5_l
    apply uU 6 (by kernel_rfl) (by rfl) (by rfl)
    ·(intro w'; go_simp <;> with_reducible rfl)
    simp only [pA, pB, pC, pD]
    refine uEnd (by kernel_rfl) ?_
    go_wp2_with fail
    go_meet
    exact ⟨_, rfl, lg5, (((((b5.set 0 _).set 1 _).set 2 _).set 3 _).set 4 _).set 5 _, r6.kept (by (repeat (with_reducible (first | assumption | exact Kept.refl _ _ _ | (apply Kept.setK; rotate_left; (repeat (first | assumption | apply Kd.set | apply Kd.alloc | apply Kd.drew)); decide; omega) | refine Kept.allocK ?_ _ | refine Kept.drewK ?_)))), by (repeat (with_reducible (first | assumption | refine Box.alloc ?_ _ | refine Box.setOther ?_ (by simp <;> omega) _))), by (repeat (with_reducible (first | assumption | refine Box.alloc ?_ _ | refine Box.setOther ?_ (by simp <;> omega) _))), by (repeat (with_reducible (first | assumption | refine Box.alloc ?_ _ | refine Box.setOther ?_ (by simp <;> omega) _))), d1.kept (by (repeat (with_reducible (first | assumption | exact Kept.refl _ _ _ | (apply Kept.setK; rotate_left; (repeat (first | assumption | apply Kd.set | apply Kd.alloc | apply Kd.drew)); decide; omega) | refine Kept.allocK ?_ _ | refine Kept.drewK ?_)))), by (repeat (with_reducible (first | assumption | exact Below.refl _ _ | refine Below.setCell ?_ (by simp <;> omega) _ | refine Below.alloc ?_ (by simp <;> omega) _ | refine Below.drew ?_ | refine below_drewN ?_ _)))⟩
   ·skip
    go_wp2
    refine hK.out _ _ (ext_alloc _ _) ?_
    clear hK K
    try simp only [pA, pB, pC, pD]
    generalize hwn : World.alloc wa _ = wn
    have he : Ext wa wn := by rw [← hwn]; exact ext_alloc _ _
    have lg5 := b3.lt
    have b5 : Box wn (wa).heap.size 107 (repC []) := by rw [← hwn]; exact Box.new _ _ _ (by simp)
    obtain ⟨g5, hg5⟩ : ∃ g, g = (wa).heap.size := ⟨_, rfl⟩
    rw [← hg5] at b5 lg5 ⊢
    clear hwn hg5
    have hx := ext_trans hx he
    have b1 := b1.ext he
    have b2 := b2.ext he
    have b3 := b3.ext he
    have d1 := d1.ext he
    try (have r6 := r6.ext he)
    clear he
    refine uS 3 (by kernel_rfl) (by kernel_rfl) (by rfl) (by rfl) (fun K hK => ?_)
    go_wp2_with (go_at_call 44; refine (refTwice_v d1 HX.out.ok).mono ?_; rintro e wb ⟨v6, rfl, o6, he⟩)
    refine hK.out _ _ (he) ?_
    clear hK K
    try simp only [pA, pB, pC, pD]
    have hx := ext_trans hx he
    have b1 := b1.ext he
    have b2 := b2.ext he
    have b3 := b3.ext he
    have d1 := d1.ext he
    try (have b5 := b5.ext he)
    clear he
    have r6 := o6.row (T := [3]) (base := 0) (by decide) (Nat.le_refl _)
    clear o6
    refine uL 5 (by kernel_rfl) (by kernel_rfl) (by kernel_rfl) (by rfl) (by rfl) (fun K hK => ?_)
    have hK' := Lib.hid hK
    clear hK
    have k5 := b5.kd
    obtain ⟨b5_0, b5_1, b5_2, b5_3, b5_4, b5_5⟩ := b5.c6
    have b5_z := b5.free
    have b5_l := b5.lt
    unfold repC
    go_wp2
    refine hK'.out _ _ ?_
    clear hK' K
    try clear b5_0 b5_1 b5_2 b5_3 b5_4 b5_5 b5_z b5_l
    apply uU 6 (by kernel_rfl) (by rfl) (by rfl)
    ·(intro w'; go_simp <;> with_reducible rfl)
    simp only [pA, pB, pC, pD]
    refine uEnd (by kernel_rfl) ?_
    go_wp2_with fail
    go_meet
    exact ⟨_, rfl, lg5, (((((b5.set 0 _).set 1 _).set 2 _).set 3 _).set 4 _).set 5 _, r6.kept (by (repeat (with_reducible (first | assumption | exact Kept.refl _ _ _ | (apply Kept.setK; rotate_left; (repeat (first | assumption | apply Kd.set | apply Kd.alloc | apply Kd.drew)); decide; omega) | refine Kept.allocK ?_ _ | refine Kept.drewK ?_)))), by (repeat (with_reducible (first | assumption | refine Box.alloc ?_ _ | refine Box.setOther ?_ (by simp <;> omega) _))), by (repeat (with_reducible (first | assumption | refine Box.alloc ?_ _ | refine Box.setOther ?_ (by simp <;> omega) _))), by (repeat (with_reducible (first | assumption | refine Box.alloc ?_ _ | refine Box.setOther ?_ (by simp <;> omega) _))), d1.kept (by (repeat (with_reducible (first | assumption | exact Kept.refl _ _ _ | (apply Kept.setK; rotate_left; (repeat (first | assumption | apply Kd.set | apply Kd.alloc | apply Kd.drew)); decide; omega) | refine Kept.allocK ?_ _ | refine Kept.drewK ?_)))), by (repeat (with_reducible (first | assumption | exact Below.refl _ _ | refine Below.setCell ?_ (by simp <;> omega) _ | refine Below.alloc ?_ (by simp <;> omega) _ | refine Below.drew ?_ | refine below_drewN ?_ _)))⟩
  ·skip
   go_wp2
   refine hK.out _ _ (ext_alloc _ _) ?_
   clear hK K
   try simp only [pA, pB, pC, pD]
   generalize hwn : World.alloc D _ = wn
   have he : Ext D wn := by rw [← hwn]; exact ext_alloc _ _
   have lg5 := b3.lt
   have b5 : Box wn (D).heap.size 107 (repC []) := by rw [← hwn]; exact Box.new _ _ _ (by simp)
   obtain ⟨g5, hg5⟩ : ∃ g, g = (D).heap.size := ⟨_, rfl⟩
   rw [← hg5] at b5 lg5 ⊢
   clear hwn hg5
   have hx := ext_trans hx he
   have b1 := b1.ext he
   have b2 := b2.ext he
   have b3 := b3.ext he
   have d1 := d1.ext he
   try (have r6 := r6.ext he)
   clear he
   refine uS 1 (by kernel_rfl) (by kernel_rfl) (by rfl) (by rfl) (fun K hK => ?_)
   go_wp2_with (go_at_call 111; refine (refReport_v d1 HX.out.ok).mono ?_; rintro e wa ⟨rfl, he⟩)
   refine hK.out _ _ (he) ?_
   clear hK K
   try simp only [pA, pB, pC, pD]
   have hx := ext_trans hx he
   have b1 := b1.ext he
   have b2 := b2.ext he
   have b3 := b3.ext he
   have d1 := d1.ext he
   try (have b5 := b5.ext he)
   clear he
   refine uS 3 (by kernel_rfl) (by kernel_rfl) (by rfl) (by rfl) (fun K hK => ?_)
   go_wp2_with (go_at_call 44; refine (refTwice_v d1 HX.out.ok).mono ?_; rintro e wb ⟨v6, rfl, o6, he⟩)
   refine hK.out _ _ (he) ?_
   clear hK K
   try simp only [pA, pB, pC, pD]
   have hx := ext_trans hx he
   have b1 := b1.ext he
   have b2 := b2.ext he
   have b3 := b3.ext he
   have d1 := d1.ext he
   try (have b5 := b5.ext he)
   clear he
   have r6 := o6.row (T := [3]) (base := 0) (by decide) (Nat.le_refl _)
   clear o6
   refine uL 5 (by kernel_rfl) (by kernel_rfl) (by kernel_rfl) (by rfl) (by rfl) (fun K hK => ?_)
   have hK' := Lib.hid hK
   clear hK
   have k5 := b5.kd
   obtain ⟨b5_0, b5_1, b5_2, b5_3, b5_4, b5_5⟩ := b5.c6
   have b5_z := b5.free
   have b5_l := b5.lt
   unfold repC
   go_wp2
   refine hK'.out _ _ ?_
   clear hK' K
   try clear b5_0 b5_1 b5_2 b5_3 b5_4 b5_5 b5_z b5_l
   apply uU 6 (by kernel_rfl) (by rfl) (by rfl)
   ·(intro w'; go_simp <;> with_reducible rfl)
   simp only [pA, pB, pC, pD]
   refine uEnd (by kernel_rfl) ?_
   go_wp2_with fail
   go_meet
   exact ⟨_, rfl, lg5, (((((b5.set 0 _).set 1 _).set 2 _).set 3 _).set 4 _).set 5 _, r6.kept (by (repeat (with_reducible (first | assumption | exact Kept.refl _ _ _ | (apply Kept.setK; rotate_left; (repeat (first | assumption | apply Kd.set | apply Kd.alloc | apply Kd.drew)); decide; omega) | refine Kept.allocK ?_ _ | refine Kept.drewK ?_)))), by (repeat (with_reducible (first | assumption | refine Box.alloc ?_ _ | refine Box.setOther ?_ (by simp <;> omega) _))), by (repeat (with_reducible (first | assumption | refine Box.alloc ?_ _ | refine Box.setOther ?_ (by simp <;> omega) _))), by (repeat (with_reducible (first | assumption | refine Box.alloc ?_ _ | refine Box.setOther ?_ (by simp <;> omega) _))), d1.kept (by (repeat (with_reducible (first | assumption | exact Kept.refl _ _ _ | (apply Kept.setK; rotate_left; (repeat (first | assumption | apply Kd.set | apply Kd.alloc | apply Kd.drew)); decide; omega) | refine Kept.allocK ?_ _ | refine Kept.drewK ?_)))), by (repeat (with_reducible (first | assumption | exact Below.refl _ _ | refine Below.setCell ?_ (by simp <;> omega) _ | refine Below.alloc ?_ (by simp <;> omega) _ | refine Below.drew ?_ | refine below_drewN ?_ _)))⟩
 case rest =>
  clear hx b1 b2 b3 d1
  obtain ⟨g5, rfl, l5, b5, r6, b1, b2, b3, d1, hx⟩ := hcut
  obtain ⟨tw, htw⟩ : ∃ tw, tTo x 6 = tw := ⟨_, rfl⟩
  rw [htw] at r6
  have HE2 := Lib.hid htw
  clear htw
  obtain ⟨A7, n7, c7, rfl, hnc7, hc7, HN7⟩ := r6.form
  unfold maxLen at hc7
  go_wp2_with fail
  go_loopw [20] (fun i wr => ∃ a : Nat, a ≤ 6 ∧ i = .int .i64 a ∧ Box wr g5 107 (repC (scHows x 6)) ∧ Row eInt [3] wr 0 (.slice A7 n7 c7) tw ∧ (∃ A n c E m e, Box wr g1 30 #[.slice A n c, .slice E m e] ∧ DskV tS wr base (.agg #[.slice A n c, .slice E m e]) (rcTo x tw a)) ∧ Box wr g2 30 #[.slice none 0 0, .slice none 0 0] ∧ Box wr g3 107 (repC []) ∧ Ext w wr) (fun i _ => 6 - (intOf i).toNat)
  case atStart => exact ⟨0, by omega, rfl, b5, r6, ⟨_, _, _, _, _, _, b1, d1⟩, b2, b3, hx⟩
  case round =>
   clear hx b1 b2 b3 d1 b5 r6
   obtain ⟨a, ha, rfl, b5, r6, ⟨A1, n1, c1, E1, m1, e1, b1, d1⟩, b2, b3, hx⟩ := hrel
   have hz := hx.size
   by_cases hlt : a < 6
   ·have i1 : (a : Int) < 6 := by omega
    have HY := Lib.hid (rcTo_fine HX.out tw a)
    have HST := Lib.hid (show rcTo x tw (a + 1) = dFlush (pPut (rcTo x tw a) a (if tw.contains (a : Int) = true then rFree else (pLook (rcTo x tw a) a).2)).1 from rfl)
    generalize rcTo x tw a = y at d1 HY HST
    obtain ⟨b1_0, b1_1⟩ := b1.c2
    have b1_z := b1.free
    have b1_l := b1.lt
    go_wp2_with fail
    refine (refLook_v (p := (a : Int)) d1 HY.out.ok).mono ?_
    rintro e4 w4 ⟨rv, rfl, hr, he⟩
    try clear b1_0 b1_1 b1_z b1_l
    have hx := ext_trans hx he
    have b5 := b5.ext he
    have r6 := r6.ext he
    have b1 := b1.ext he
    have b2 := b2.ext he
    have b3 := b3.ext he
    have d1 := d1.ext he
    clear he
    obtain ⟨how, hhow⟩ : ∃ h, (pLook y (a : Int)).1 = h := ⟨_, rfl⟩
    rw [hhow]
    clear hhow
    generalize (pLook y (a : Int)).2 = r at hr HST
    obtain ⟨u4, rfl, hu4⟩ := hr
    obtain ⟨A4, n4, c4, rfl, _, _⟩ := hu4.form
    go_upto_region 7 with (fail)
    generalize hwn : World.alloc w4 _ = w5
    have he : Ext w4 w5 := by rw [← hwn]; exact ext_alloc _ _
    have b9 : Box w5 w4.heap.size 51 #[.int .i64 r.kind, .int .i64 r.key, .int .i64 r.ver, .slice A4 n4 c4] := by rw [← hwn]; exact Box.new _ _ _ (by simp)
    clear hwn
    have l9 := b5.lt
    have l19 := b1.lt
    have hx := ext_trans hx he
    have b5 := b5.ext he
    have r6 := r6.ext he
    have b1 := b1.ext he
    have b2 := b2.ext he
    have b3 := b3.ext he
    have d1 := d1.ext he
    have hu4 := hu4.ext he
    clear he
    obtain ⟨g9, hg9⟩ : ∃ g, g = w4.heap.size := ⟨_, rfl⟩
    rw [← hg9] at b9 l9 l19 ⊢
    clear hg9
    go_wp2_with fail
    go_loopw [31] (fun i wq => ∃ b : Nat, b ≤ n7 ∧ i = .int .i64 b ∧ RBx wq g9 0 (if (tw.take b).contains (a : Int) = true then rFree else r) ∧ Box wq g5 107 (repC (scHows x 6)) ∧ Row eInt [3] wq 0 (.slice A7 n7 c7) tw ∧ Box wq g1 30 #[.slice A1 n1 c1, .slice E1 m1 e1] ∧ DskV tS wq base (.agg #[.slice A1 n1 c1, .slice E1 m1 e1]) y ∧ Box wq g2 30 #[.slice none 0 0, .slice none 0 0] ∧ Box wq g3 107 (repC []) ∧ Ext w wq) (fun i _ => n7 - (intOf i).toNat)
    case atStart => exact ⟨0, by omega, rfl, ⟨_, _, _, b9, hu4⟩, b5, r6, b1, d1, b2, b3, hx⟩
    case round =>
     clear hx b1 b2 b3 d1 b5 r6 b9 hu4
     obtain ⟨b, hb, rfl, ⟨A9, n9, c9, b9, hu9⟩, b5, r6, b1, d1, b2, b3, hx⟩ := hrel
     by_cases hlb : b < n7
     ·have i2 : (0 : Int) ≤ (b : Int) := by omega
      have i3 : (b : Int) < (n7 : Int) := by omega
      obtain ⟨g, o, rfl, _, x0⟩ := r6.int_at hlb
      have HSP := Lib.hid (has_step (x := (a : Int)) (show b < tw.length from HN7.out ▸ hlb))
      generalize tw.getD b 0 = z at x0 HSP
      by_cases hz1 : z = (a : Int)
      ·have q : (z == (a : Int)) = true := by simpa using hz1
       have HB2 := Lib.hid (show (if (tw.take (b + 1)).contains (a : Int) = true then rFree else r) = rFree by rw [HSP.out, decide_eq_true hz1]; simp)
       clear hz1 HSP
       have k9 := b9.kd
       obtain ⟨b9_0, b9_1, b9_2, b9_3⟩ := b9.c4
       have b9_z := b9.free
       have b9_l := b9.lt
       go_wp2_with fail
       try clear b9_0 b9_1 b9_2 b9_3 b9_z b9_l
       refine ⟨⟨b + 1, by omega, rfl, ⟨none, 0, 0, ?_, ?_⟩, by (repeat (with_reducible (first | assumption | refine Box.alloc ?_ _ | refine Box.setOther ?_ (by simp <;> omega) _))), r6.kept (by (repeat (with_reducible (first | assumption | exact Kept.refl _ _ _ | (apply Kept.setK; rotate_left; (repeat (first | assumption | apply Kd.set | apply Kd.alloc | apply Kd.drew)); decide; omega) | refine Kept.allocK ?_ _ | refine Kept.drewK ?_)))), by (repeat (with_reducible (first | assumption | refine Box.alloc ?_ _ | refine Box.setOther ?_ (by simp <;> omega) _))), d1.kept (by (repeat (with_reducible (first | assumption | exact Kept.refl _ _ _ | (apply Kept.setK; rotate_left; (repeat (first | assumption | apply Kd.set | apply Kd.alloc | apply Kd.drew)); decide; omega) | refine Kept.allocK ?_ _ | refine Kept.drewK ?_)))), by (repeat (with_reducible (first | assumption | refine Box.alloc ?_ _ | refine Box.setOther ?_ (by simp <;> omega) _))), by (repeat (with_reducible (first | assumption | refine Box.alloc ?_ _ | refine Box.setOther ?_ (by simp <;> omega) _))), by (repeat (with_reducible (first | assumption | exact Below.refl _ _ | refine Below.setCell ?_ (by simp <;> omega) _ | refine Below.alloc ?_ (by simp <;> omega) _ | refine Below.drew ?_ | refine below_drewN ?_ _)))⟩, ?_⟩
       ·rw [HB2.out]
        exact (((b9.set 0 _).set 1 _).set 2 _).set 3 _
       ·rw [HB2.out]
        exact ByT.nil _ _
       ·simp only [intOf]
        omega
      ·have q : (z == (a : Int)) = false := by simpa using hz1
       have HB2 := Lib.hid (show (if (tw.take (b + 1)).contains (a : Int) = true then rFree else r) = (if (tw.take b).contains (a : Int) = true then rFree else r) by rw [HSP.out, decide_eq_false hz1, Bool.or_false])
       clear hz1 HSP
       go_wp2_with fail
       refine ⟨⟨b + 1, by omega, rfl, ⟨A9, n9, c9, by rw [HB2.out]; exact b9, by rw [HB2.out]; exact hu9⟩, b5, r6, b1, d1, b2, b3, hx⟩, ?_⟩
       simp only [intOf]
       omega
     ·obtain rfl : b = n7 := by omega
      rw [List.take_of_length_le (by rw [HN7.out]; exact Nat.le_refl _)] at b9 hu9
      have hzq := hx.size
      generalize (if tw.contains (a : Int) = true then rFree else r) = s at b9 hu9 HST
      have hr9 : RecV wr base (.agg #[.int .i64 s.kind, .int .i64 s.key, .int .i64 s.ver, .slice A9 n9 c9]) s := ⟨_, rfl, hu9.sub (Nat.zero_le _)⟩
      clear hu9
      obtain ⟨b9_0, b9_1, b9_2, b9_3⟩ := b9.c4
      have b9_z := b9.free
      have b9_l := b9.lt
      obtain ⟨b1_0, b1_1⟩ := b1.c2
      have b1_z := b1.free
      have b1_l := b1.lt
      go_wp2_with fail
      refine (rpPut_v (p := (a : Int)) (tDS') (by decide) (Nat.le_trans hbase hzq) d1 HY.out.ok (by have := HY.out.late; omega) hr9).mono ?_
      rintro e6 w6 ⟨v6, q6, rfl, _, d12, he⟩
      try clear b9_0 b9_1 b9_2 b9_3 b9_z b9_l b1_0 b1_1 b1_z b1_l
      have hx := ext_trans hx he
      have b5 := b5.ext he
      have r6 := r6.ext he
      have b1 := b1.ext he
      have b2 := b2.ext he
      have b3 := b3.ext he
      clear he
      clear d1 hr9 b9
      obtain ⟨A12, n12, c12, E12, m12, e12, rfl, _, _, _, _, _, _⟩ := d12.form
      have HP := Lib.hid (HY.out.put (by omega) (a : Int) s)
      clear HY
      generalize (pPut y (a : Int) s).1 = z1 at d12 HP HST
      go_upto_region 14 with (fail)
      generalize hwn : World.alloc w6 _ = w7
      have he : Ext w6 w7 := by rw [← hwn]; exact ext_alloc _ _
      have b12 : Box w7 w6.heap.size 30 #[.slice A12 n12 c12, .slice E12 m12 e12] := by rw [← hwn]; exact Box.new _ _ _ (by simp)
      clear hwn
      have hx := ext_trans hx he
      have b5 := b5.ext he
      have r6 := r6.ext he
      have b1 := b1.ext he
      have b2 := b2.ext he
      have b3 := b3.ext he
      have d12 := d12.ext he
      clear he
      have hz7 := hx.size
      obtain ⟨b12_0, b12_1⟩ := b12.c2
      have b12_z := b12.free
      have b12_l := b12.lt
      go_wp2_with fail
      refine (refFlush_v (tDS') (Nat.le_trans hbase hz7) d12 HP.out.ok HP.out.inn).mono ?_
      rintro e8 w8 ⟨v8, rfl, d8, he⟩
      try clear b12_0 b12_1 b12_z b12_l
      have hx := ext_trans hx he
      have b5 := b5.ext he
      have r6 := r6.ext he
      have b1 := b1.ext he
      have b2 := b2.ext he
      have b3 := b3.ext he
      have b12 := b12.ext he
      clear he
      clear d12 b12
      obtain ⟨A8, n8, c8, E8, m8, e8, rfl, _, _, _, _, _, _⟩ := d8.form
      have k1 := b1.kd
      obtain ⟨b1_0, b1_1⟩ := b1.c2
      have b1_z := b1.free
      have b1_l := b1.lt
      go_wp2_with fail
      try clear b1_0 b1_1 b1_z b1_l
      refine ⟨⟨a + 1, by omega, rfl, by (repeat (with_reducible (first | assumption | refine Box.alloc ?_ _ | refine Box.setOther ?_ (by simp <;> omega) _))), r6.kept (by (repeat (with_reducible (first | assumption | exact Kept.refl _ _ _ | (apply Kept.setK; rotate_left; (repeat (first | assumption | apply Kd.set | apply Kd.alloc | apply Kd.drew)); decide; omega) | refine Kept.allocK ?_ _ | refine Kept.drewK ?_)))), ⟨_, _, _, _, _, _, (b1.set 0 _).set 1 _, ?_⟩, by (repeat (with_reducible (first | assumption | refine Box.alloc ?_ _ | refine Box.setOther ?_ (by simp <;> omega) _))), by (repeat (with_reducible (first | assumption | refine Box.alloc ?_ _ | refine Box.setOther ?_ (by simp <;> omega) _))), by (repeat (with_reducible (first | assumption | exact Below.refl _ _ | refine Below.setCell ?_ (by simp <;> omega) _ | refine Below.alloc ?_ (by simp <;> omega) _ | refine Below.drew ?_ | refine below_drewN ?_ _)))⟩, ?_⟩
      ·rw [HST.out]
       exact d8.kept (by (repeat (with_reducible (first | assumption | exact Kept.refl _ _ _ | (apply Kept.setK; rotate_left; (repeat (first | assumption | apply Kd.set | apply Kd.alloc | apply Kd.drew)); decide; omega) | refine Kept.allocK ?_ _ | refine Kept.drewK ?_))))
      ·simp only [intOf]
       omega
   ·obtain rfl : a = 6 := by omega
    obtain ⟨y, hy⟩ : ∃ y, rcTo x tw 6 = y := ⟨_, rfl⟩
    rw [hy] at d1
    have HE3 := Lib.hid hy
    clear hy
    go_upto_region 16 with (fail)
    have he : Ext wr wr.drew := (Below.refl _ _).drew
    have hx := ext_trans hx he
    have b1 := b1.ext he
    have b2 := b2.ext he
    have b3 := b3.ext he
    have b5 := b5.ext he
    have r6 := r6.ext he
    have d1 := d1.ext he
    clear he
    refine wp_region_uk w.heap.size [g1, g5] 6 [2, 5] [0, 1, 2, 5] rfl (by kernel_rfl) (by kernel_rfl) ?_
    generalize wr.drew = D at hx b1 b2 b3 b5 r6 d1 ⊢
    apply uF 0 (by kernel_rfl) (by rfl) (by rfl) (by rfl)
    ·(intro w' hx; obtain ⟨x0, x1⟩ := (b1.xk hx (by simp)).c2; go_simp <;> with_reducible rfl)
    simp only [pA, pB, pC, pD]
    apply uF 1 (by kernel_rfl) (by rfl) (by rfl) (by rfl)
    ·(intro w' hx; obtain ⟨x0, x1, x2, x3, x4, x5⟩ := (b5.xk hx (by simp)).c6; go_simp <;> with_reducible rfl)
    simp only [pA, pB, pC, pD]
    apply uU 2 (by kernel_rfl) (by rfl) (by rfl)
    ·(intro w'; go_simp <;> with_reducible rfl)
    simp only [pA, pB, pC, pD]
    refine uS 3 (by kernel_rfl) (by kernel_rfl) (by rfl) (by rfl) (fun K hK => ?_)
    have k2 := b2.kd
    obtain ⟨b2_0, b2_1⟩ := b2.c2
    have b2_z := b2.free
    have b2_l := b2.lt
    go_wp2
    try clear b2_0 b2_1 b2_z b2_l
    refine hK.out _ _ (by repeat (with_reducible (first | exact XK.refl _ _ _ | refine xk_set ?_ (by omega) (by simp; omega) _ _))) ?_
    clear hK K
    try simp only [pA, pB, pC, pD]
    generalize hwn : World.setCell (World.setCell D _ _) _ _ = w10
    have b3 : Box w10 g3 107 (repC []) := by rw [← hwn]; (repeat (with_reducible (first | assumption | refine Box.alloc ?_ _ | refine Box.setOther ?_ (by simp <;> omega) _)))
    have r6 : Row eInt [3] w10 0 (.slice A7 n7 c7) tw := r6.kept (by rw [← hwn]; (repeat (with_reducible (first | assumption | exact Kept.refl _ _ _ | (apply Kept.setK; rotate_left; (repeat (first | assumption | apply Kd.set | apply Kd.alloc | apply Kd.drew)); decide; omega) | refine Kept.allocK ?_ _ | refine Kept.drewK ?_))))
    have d1 : DskV tS w10 base (.agg #[.slice A1 n1 c1, .slice E1 m1 e1]) y := d1.kept (by rw [← hwn]; (repeat (with_reducible (first | assumption | exact Kept.refl _ _ _ | (apply Kept.setK; rotate_left; (repeat (first | assumption | apply Kd.set | apply Kd.alloc | apply Kd.drew)); decide; omega) | refine Kept.allocK ?_ _ | refine Kept.drewK ?_))))
    have hx : Ext w w10 := by rw [← hwn]; (repeat (with_reducible (first | assumption | exact Below.refl _ _ | refine Below.setCell ?_ (by simp <;> omega) _ | refine Below.alloc ?_ (by simp <;> omega) _ | refine Below.drew ?_ | refine below_drewN ?_ _)))
    have b2 : Box w10 g2 30 #[.slice A1 n1 c1, .slice E1 m1 e1] := by rw [← hwn]; exact (b2.set 0 _).set 1 _
    clear hwn k2
    refine uL 4 (by kernel_rfl) (by kernel_rfl) (by kernel_rfl) (by rfl) (by rfl) (fun K hK => ?_)
    have hK' := Lib.hid hK
    clear hK
    have k3 := b3.kd
    obtain ⟨b3_0, b3_1, b3_2, b3_3, b3_4, b3_5⟩ := b3.c6
    have b3_z := b3.free
    have b3_l := b3.lt
    obtain ⟨b2_0, b2_1⟩ := b2.c2
    have b2_z := b2.free
    have b2_l := b2.lt
    go_wp2
    refine hK'.out _ _ ?_
    clear hK' K
    apply uU 5 (by kernel_rfl) (by rfl) (by rfl)
    ·(intro w'; go_simp <;> with_reducible rfl)
    simp only [pA, pB, pC, pD]
    refine uEnd (by kernel_rfl) ?_
    go_wp2_with fail
    ((try simp only [Exit.inBlock, Exit.then]); refine bodyPost_ret (v := ?_) ?resultOf rfl ?_; case resultOf => (rw [results_cct rfl]; go_simp; rfl))
    try clear b3_0 b3_1 b3_2 b3_3 b3_4 b3_5 b3_z b3_l b2_0 b2_1 b2_z b2_l
    rw [HE1.out, HE2.out, HE3.out]
    exact ⟨_, _, rfl, d1.kept (by (repeat (with_reducible (first | assumption | exact Kept.refl _ _ _ | (apply Kept.setK; rotate_left; (repeat (first | assumption | apply Kd.set | apply Kd.alloc | apply Kd.drew)); decide; omega) | refine Kept.allocK ?_ _ | refine Kept.drewK ?_)))), r6.kept (by (repeat (with_reducible (first | assumption | exact Kept.refl _ _ _ | (apply Kept.setK; rotate_left; (repeat (first | assumption | apply Kd.set | apply Kd.alloc | apply Kd.drew)); decide; omega) | refine Kept.allocK ?_ _ | refine Kept.drewK ?_)))), by (repeat (with_reducible (first | assumption | exact Below.refl _ _ | refine Below.setCell ?_ (by simp <;> omega) _ | refine Below.alloc ?_ (by simp <;> omega) _ | refine Below.drew ?_ | refine below_drewN ?_ _)))⟩
end Go.Proofs.YtmcgbdbhpnplmaaGreat
