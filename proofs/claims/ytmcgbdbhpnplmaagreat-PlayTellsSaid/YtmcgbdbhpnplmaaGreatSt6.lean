/- Walks: play.Play. -/
import Derived.Test.YtmcgbdbhpnplmaaGreatSt5
import Derived.Test.YtmcgbdbhpnplmaaGreatSc8
namespace Go.Proofs.YtmcgbdbhpnplmaaGreat
open Go Go.RowKit
theorem results_cttt {fn : Func} {p u r z : Tmp} {ty : TypeId} (h : fn.results = #[.cell p ty, .tmp u, .tmp r, .tmp z]) (tmps : Array Value) (P : Program) (w : World) :
  (results fn tmps).run P w = ((asAddr (tmps.getD p undef)).run P w).andThen fun a w₁ => ((loadVar ty a).run P w₁).andThen fun x w₂ => .ok (.tuple #[x, tmps.getD u undef, tmps.getD r undef, tmps.getD z undef]) w₂ := by
 simp only [results, h]
 simp [Sem.run_bind, Result.andThen]
set_option maxRecDepth 100000 in
set_option maxHeartbeats 4000000 in
theorem playMany_v {T : List TypeId} {base : Nat} {v : Value} {l : List Stp} {w : World} (h : Row eStp T w base v l) (hl : 100 < l.length) :
  Calls Tryz.prog 37 #[v] w fun e w' => e = .returned (.tuple #[.agg #[.slice none 0 0, .slice none 0 0, .slice none 0 0, .int .i64 0], .slice none 0 0, .slice none 0 0, .int .i64 5]) ∧ Ext w w' := by
 obtain ⟨A, n, c, rfl, hc, hcm, HN⟩ := h.form
 have q : decide ((100 : Int) < (n : Int)) = true := by have := HN.out; simp; omega
 have q' : decide (100 < n) = true := by have := HN.out; simp; omega
 have q'' : 100 < n := by have := HN.out; omega
 clear h hl
 go_enter Tryz.func37, Tryz.ntmps37
 go_upto_region 1 with (fail)
 generalize hwn : World.alloc w _ = w1
 have hx : Ext w w1 := by rw [← hwn]; exact ext_alloc _ _
 have b2 : Box w1 w.heap.size 33 #[.slice none 0 0, .slice none 0 0, .slice none 0 0, .int .i64 0] := by rw [← hwn]; exact Box.new _ _ _ rfl
 clear hwn
 obtain ⟨g2, hg2⟩ : ∃ g, g = w.heap.size := ⟨_, rfl⟩
 have l2 : w.heap.size ≤ g2 := by omega
 rw [show Box w1 w.heap.size 33 #[.slice none 0 0, .slice none 0 0, .slice none 0 0, .int .i64 0] ↔ Box w1 g2 33 #[.slice none 0 0, .slice none 0 0, .slice none 0 0, .int .i64 0] by rw [hg2]] at b2
 rw [← hg2]
 clear hg2
 obtain ⟨b2_0, b2_1, b2_2, b2_3⟩ := b2.c4
 have b2_z := b2.free
 have b2_l := b2.lt
 go_wp2_with fail
 ((try simp only [Exit.inBlock, Exit.then]); refine bodyPost_ret (v := ?_) ?resultOf rfl ?_; case resultOf => (rw [results_cttt rfl]; go_simp; rfl))
 try clear b2_0 b2_1 b2_2 b2_3 b2_z b2_l
 exact ⟨rfl, by (repeat (with_reducible (first | assumption | exact Below.refl _ _ | refine Below.setCell ?_ (by simp <;> omega) _ | refine Below.alloc ?_ (by simp <;> omega) _ | refine Below.drew ?_ | refine below_drewN ?_ _)))⟩
set_option maxRecDepth 100000 in
set_option maxHeartbeats 4000000 in
theorem playPlay_v {T : List TypeId} {base : Nat} {v : Value} {l : List Stp} {w : World} (h : Row eStp T w base v l) (hl100 : l.length ≤ 100) :
  Calls Tryz.prog 37 #[v] w fun e w' => ∃ v' es ns, e = .returned (.tuple #[v', es, ns, .int .i64 0]) ∧ StoV tS w' 0 v' (yPlay l) ∧ Row eErr [39] w' 0 es (yErrs sNew l) ∧ Row eInt [3] w' 0 ns (yNums sNew l) ∧ Ext w w' := by
 have hl := h.all (T' := [])
 clear h
 obtain ⟨A, n, c, rfl, hc, hcm, HN⟩ := hl.form
 unfold maxLen at hcm
 have q : decide ((100 : Int) < (n : Int)) = false := by have := HN.out; simp; omega
 have q' : decide (100 < n) = false := by have := HN.out; simp; omega
 have q'' : n ≤ 100 := by have := HN.out; omega
 clear hl100
 go_enter Tryz.func37, Tryz.ntmps37
 go_upto_region 1 with (fail)
 generalize hwn : World.alloc w _ = w1
 have hx : Ext w w1 := by rw [← hwn]; exact ext_alloc _ _
 have b2 : Box w1 w.heap.size 33 #[.slice none 0 0, .slice none 0 0, .slice none 0 0, .int .i64 0] := by rw [← hwn]; exact Box.new _ _ _ rfl
 clear hwn
 obtain ⟨g2, hg2⟩ : ∃ g, g = w.heap.size := ⟨_, rfl⟩
 have l2 : w.heap.size ≤ g2 := by omega
 rw [show Box w1 w.heap.size 33 #[.slice none 0 0, .slice none 0 0, .slice none 0 0, .int .i64 0] ↔ Box w1 g2 33 #[.slice none 0 0, .slice none 0 0, .slice none 0 0, .int .i64 0] by rw [hg2]] at b2
 rw [← hg2]
 clear hg2
 go_wp2_with fail
 refine (stoNew_v _).mono ?_
 rintro e2 w2 ⟨v2, rfl, s2, he⟩
 have hx := ext_trans hx he
 have b2 := b2.ext he
 clear he
 obtain ⟨A2, n2, c2, E2, m2, e2, F2, k2, f2, rfl, _, _, _, _, _, _, _, _⟩ := s2.form
 go_upto_region 4 with (fail)
 generalize hwn : World.alloc w2 _ = w3
 have he : Ext w2 w3 := by rw [← hwn]; exact ext_alloc _ _
 have b5 : Box w3 w2.heap.size 33 #[.slice A2 n2 c2, .slice E2 m2 e2, .slice F2 k2 f2, .int .i64 sNew.next] := by rw [← hwn]; exact Box.new _ _ _ (by simp)
 clear hwn
 have l5 := b2.lt
 have hx := ext_trans hx he
 have b2 := b2.ext he
 have s2 := s2.ext he
 clear he
 obtain ⟨g5, hg5⟩ : ∃ g, g = w2.heap.size := ⟨_, rfl⟩
 rw [← hg5] at b5 l5 ⊢
 clear hg5
 have s5 := s2
 have HN1 := Lib.hid q''
 clear s2 q q' q''
 go_upto_region 7 with (fail)
 go_loopw [7, 8, 21] (fun ve vn i wr => ∃ a : Nat, a ≤ n ∧ i = .int .i64 a ∧ (∃ A n c E m e F k f, Box wr g5 33 #[.slice A n c, .slice E m e, .slice F k f, .int .i64 (yTo sNew (l.take a)).next] ∧ StoV tS wr 0 (.agg #[.slice A n c, .slice E m e, .slice F k f, .int .i64 (yTo sNew (l.take a)).next]) (yTo sNew (l.take a))) ∧ OwnRow eErr wr (g5 + 1) 0 ve (yErrs sNew (l.take a)) ∧ OwnRow eInt wr (g5 + 1) 0 vn (yNums sNew (l.take a)) ∧ Box wr g2 33 #[.slice none 0 0, .slice none 0 0, .slice none 0 0, .int .i64 0] ∧ Ext w wr) (fun _ _ i _ => n - (intOf i).toNat)
 case atStart => exact ⟨0, by omega, rfl, ⟨_, _, _, _, _, _, _, _, _, b5, s5⟩, OwnRow.nil _ _ _ _, OwnRow.nil _ _ _ _, b2, hx⟩
 case round =>
  clear hx b2 b5 s5
  obtain ⟨a, ha, rfl, ⟨A5, n5, c5, E5, m5, e5, F5, k5, f5, b5, s5⟩, oe, on, b2, hx⟩ := hrel
  have hz := hx.size
  have l5z := b5.lt
  by_cases hlt : a < n
  ·have i0 : (0 : Int) ≤ (a : Int) := by omega
   have i1 : (a : Int) < (n : Int) := by omega
   have hal : a < l.length := HN.out ▸ hlt
   obtain ⟨g1, o1, u1, rfl, hg1, hu1, f1⟩ := hl.stp_x hlt
   have HST := Lib.hid (play_step sNew hal)
   have HG := Lib.hid (yPlay_good (l.take a))
   have HLE := Lib.hid (And.intro (errs_len sNew l a).1 (And.intro (errs_len sNew l a).2 (Nat.le_trans ha HN1.out)))
   unfold yPlay at HG
   generalize yTo sNew (l.take a) = y at b5 s5 HST HG
   generalize l.getD a eStp.d = x at f1 hu1 HST
   generalize yErrs sNew (l.take a) = es at oe HST HLE
   generalize yNums sNew (l.take a) = ns at on HST HLE
   obtain ⟨AX, nx, cx, rfl, _, _⟩ := hu1.form
   obtain ⟨x0, x1, x2, x3, x4, x5, x6⟩ := f1 _ hx
   have hu1 := hu1.ext hx
   clear f1 hg1
   go_upto_region 9 with (fail)
   generalize hwn : World.alloc wr _ = w3
   have he : Ext wr w3 := by rw [← hwn]; exact ext_alloc _ _
   have b9 : Box w3 wr.heap.size 67 #[.int .i64 x.kind, .int .i64 x.n, .int .i64 x.m, .int .i64 x.deed.kind, .int .i64 x.deed.key, .int .i64 x.deed.n, .slice AX nx cx] := by rw [← hwn]; exact Box.new _ _ _ (by simp)
   clear hwn x0 x1 x2 x3 x4 x5 x6
   have hx := ext_trans hx he
   have s5 := s5.ext he
   have b5 := b5.ext he
   have b2 := b2.ext he
   have oe := oe.ext he
   have on := on.ext he
   have hu1 := hu1.ext he
   clear he
   obtain ⟨g9, hg9⟩ : ∃ g, g = wr.heap.size := ⟨_, rfl⟩
   rw [← hg9] at b9 ⊢
   clear hg9
   obtain ⟨b5_0, b5_1, b5_2, b5_3⟩ := b5.c4
   have b5_z := b5.free
   have b5_l := b5.lt
   obtain ⟨b9_0, b9_1, b9_2, b9_3, b9_4, b9_5, b9_6⟩ := b9.c7
   have b9_z := b9.free
   have b9_l := b9.lt
   go_wp2_with fail
   refine (playDo_v (x := x) (s := y) s5 HG.out ⟨_, rfl, hu1⟩).mono ?_
   rintro e4 w4 ⟨v4, rfl, s4, he⟩
   try clear b5_0 b5_1 b5_2 b5_3 b5_z b5_l b9_0 b9_1 b9_2 b9_3 b9_4 b9_5 b9_6 b9_z b9_l
   have hx := ext_trans hx he
   have b5 := b5.ext he
   have b9 := b9.ext he
   have b2 := b2.ext he
   have oe := oe.ext he
   have on := on.ext he
   clear he
   clear s5 hu1 b9
   obtain ⟨A4, n4, c4, E4, m4, e4, F4, k4, f4, rfl, _, _, _, _, _, _, _, _⟩ := s4.form
   go_upto_region 10 with (fail)
   generalize hwn : World.alloc w4 _ = w5
   have he : Ext w4 w5 := by rw [← hwn]; exact ext_alloc _ _
   have b10 : Box w5 w4.heap.size 33 #[.slice A4 n4 c4, .slice E4 m4 e4, .slice F4 k4 f4, .int .i64 (yDo y x).1.next] := by rw [← hwn]; exact Box.new _ _ _ (by simp)
   clear hwn
   have hx := ext_trans hx he
   have s4 := s4.ext he
   have b5 := b5.ext he
   have b2 := b2.ext he
   have oe := oe.ext he
   have on := on.ext he
   clear he
   obtain ⟨g10, hg10⟩ : ∃ g, g = w4.heap.size := ⟨_, rfl⟩
   rw [← hg10] at b10 ⊢
   clear hg10
   have kb := b5.kd
   obtain ⟨b5_0, b5_1, b5_2, b5_3⟩ := b5.c4
   have b5_z := b5.free
   have b5_l := b5.lt
   obtain ⟨b10_0, b10_1, b10_2, b10_3⟩ := b10.c4
   have b10_z := b10.free
   have b10_l := b10.lt
   go_upto_region 11 with (fail)
   try clear b5_0 b5_1 b5_2 b5_3 b5_z b5_l b10_0 b10_1 b10_2 b10_3 b10_z b10_l
   generalize hwn : World.setCell (World.setCell (World.setCell (World.setCell w5 _ _) _ _) _ _) _ _ = w6
   have b2 : Box w6 g2 33 #[.slice none 0 0, .slice none 0 0, .slice none 0 0, .int .i64 0] := by rw [← hwn]; (repeat (with_reducible (first | assumption | refine Box.alloc ?_ _ | refine Box.setOther ?_ (by simp <;> omega) _)))
   have s4 := s4.kept (w' := w6) (by rw [← hwn]; (repeat (with_reducible (first | assumption | exact Kept.refl _ _ _ | (apply Kept.setK; rotate_left; (repeat (first | assumption | apply Kd.set | apply Kd.alloc | apply Kd.drew)); decide; omega) | refine Kept.allocK ?_ _ | refine Kept.drewK ?_))))
   have oe := oe.kept (w' := w6) (T := [39]) (base' := 0) (by decide) (Nat.zero_le _) (by rw [← hwn]; (repeat (with_reducible (first | assumption | exact Kept.refl _ _ _ | (apply Kept.setK; rotate_left; (repeat (first | assumption | apply Kd.set | apply Kd.alloc | apply Kd.drew)); decide; omega) | refine Kept.allocK ?_ _ | refine Kept.drewK ?_))))
   have on := on.kept (w' := w6) (T := [3]) (base' := 0) (by decide) (Nat.zero_le _) (by rw [← hwn]; (repeat (with_reducible (first | assumption | exact Kept.refl _ _ _ | (apply Kept.setK; rotate_left; (repeat (first | assumption | apply Kd.set | apply Kd.alloc | apply Kd.drew)); decide; omega) | refine Kept.allocK ?_ _ | refine Kept.drewK ?_))))
   have hx : Ext w w6 := by rw [← hwn]; (repeat (with_reducible (first | assumption | exact Below.refl _ _ | refine Below.setCell ?_ (by simp <;> omega) _ | refine Below.alloc ?_ (by simp <;> omega) _ | refine Below.drew ?_ | refine below_drewN ?_ _)))
   have b5 : Box w6 g5 33 #[.slice A4 n4 c4, .slice E4 m4 e4, .slice F4 k4 f4, .int .i64 (yDo y x).1.next] := by rw [← hwn]; exact (((b5.set 0 _).set 1 _).set 2 _).set 3 _
   clear hwn kb b10
   have l6 := b5.lt
   have HL9 : Hid (es.length + 1 ≤ lim) := Lib.hid (by have := HLE.out; rw [lim_def]; omega)
   have HL8 : Hid (ns.length + 1 ≤ lim) := Lib.hid (by have := HLE.out; rw [lim_def]; omega)
   go_wp2_with (at_builtin; (first | (refine wpl_eno rfl (.tmp 33) (.tmp 35) rfl rfl (oe.ext (ext_alloc _ _)) rfl (Sl.new _ _ _ _ 1 1 rfl (by unfold maxLen; omega) (Nat.lt_succ_self _)) (y := (yDo y x).2.2) rfl HL9.out (by rw [size_alloc]; omega) (by omega) ?_; intro v7 w7 oe7 hg7 hb7; have kt := fun T b (hT : 39 ∉ 5 :: T) hb => (oe.ext (ext_alloc _ _)).keptT (T := T) (base' := b) hg7 hT hb; have on7 := (on.ext (ext_alloc _ _)).kept (T := [3]) (by decide) (Nat.le_refl 0) (kt _ 0 (by decide) (Nat.zero_le _)); have s7 := (s4.ext (ext_alloc _ _)).kept (kt _ _ (by decide) (by omega)); have b57 := (b5.alloc _).below hb7 (by omega); have b27 := (b2.alloc _).below hb7 (by omega); have hx7 := (hx.alloc hx.size _).trans (hb7.mono (by omega)); have hz7 := hb7.size; rw [size_alloc] at hz7; clear kt) | (refine wpl_int rfl (.tmp 37) (.tmp 39) rfl rfl (on7.ext (ext_alloc _ _)) rfl (Sl.new _ _ _ _ 1 1 rfl (by unfold maxLen; omega) (Nat.lt_succ_self _)) (y := (yDo y x).2.1) rfl HL8.out (by rw [size_alloc]; omega) (by omega) ?_; intro v8 w8 on8 hg8 hb8; have kt := fun T b (hT : 3 ∉ 5 :: T) hb => (on7.ext (ext_alloc _ _)).keptT (T := T) (base' := b) hg8 hT hb; have oe8 := (oe7.ext (ext_alloc _ _)).kept (T := [39]) (by decide) (Nat.le_refl 0) (kt _ 0 (by decide) (Nat.zero_le _)); have s8 := (s7.ext (ext_alloc _ _)).kept (kt _ _ (by decide) (by omega)); have b58 := (b57.alloc _).below hb8 (by omega); have b28 := (b27.alloc _).below hb8 (by omega); have hx8 := (hx7.alloc hx7.size _).trans (hb8.mono (by omega)); clear kt)))
   refine ⟨⟨a + 1, by omega, rfl, ?_, ?_, ?_, b28, hx8⟩, ?_⟩
   ·rw [HST.out.1]
    exact ⟨_, _, _, _, _, _, _, _, _, b58, s8⟩
   ·rw [HST.out.2.1]
    exact oe8
   ·rw [HST.out.2.2]
    exact on8
   ·simp only [intOf]
    omega
  ·obtain rfl : a = n := by omega
   have HFIN := Lib.hid (show l.take a = l by rw [HN.out, List.take_length])
   have kb := b2.kd
   obtain ⟨b2_0, b2_1, b2_2, b2_3⟩ := b2.c4
   have b2_z := b2.free
   have b2_l := b2.lt
   obtain ⟨b5_0, b5_1, b5_2, b5_3⟩ := b5.c4
   have b5_z := b5.free
   have b5_l := b5.lt
   go_wp2_with fail
   ((try simp only [Exit.inBlock, Exit.then]); refine bodyPost_ret (v := ?_) ?resultOf rfl ?_; case resultOf => (rw [results_cttt rfl]; go_simp; rfl))
   try clear b2_0 b2_1 b2_2 b2_3 b2_z b2_l b5_0 b5_1 b5_2 b5_3 b5_z b5_l
   refine ⟨_, _, _, rfl, ?_, ?_, ?_, ?_⟩
   ·rw [show yPlay l = yTo sNew (l.take a) from (congrArg (yTo sNew) HFIN.out).symm]
    exact s5.kept (by (repeat (with_reducible (first | assumption | exact Kept.refl _ _ _ | (apply Kept.setK; rotate_left; (repeat (first | assumption | apply Kd.set | apply Kd.alloc | apply Kd.drew)); decide; omega) | refine Kept.allocK ?_ _ | refine Kept.drewK ?_))))
   ·rw [← HFIN.out]
    exact (oe.row (T := [39]) (base := 0) (base' := 0) (by decide) (Nat.zero_le _)).kept (by (repeat (with_reducible (first | assumption | exact Kept.refl _ _ _ | (apply Kept.setK; rotate_left; (repeat (first | assumption | apply Kd.set | apply Kd.alloc | apply Kd.drew)); decide; omega) | refine Kept.allocK ?_ _ | refine Kept.drewK ?_))))
   ·rw [← HFIN.out]
    exact (on.row (T := [3]) (base := 0) (base' := 0) (by decide) (Nat.zero_le _)).kept (by (repeat (with_reducible (first | assumption | exact Kept.refl _ _ _ | (apply Kept.setK; rotate_left; (repeat (first | assumption | apply Kd.set | apply Kd.alloc | apply Kd.drew)); decide; omega) | refine Kept.allocK ?_ _ | refine Kept.drewK ?_))))
   ·(repeat (with_reducible (first | assumption | exact Below.refl _ _ | refine Below.setCell ?_ (by simp <;> omega) _ | refine Below.alloc ?_ (by simp <;> omega) _ | refine Below.drew ?_ | refine below_drewN ?_ _)))
end Go.Proofs.YtmcgbdbhpnplmaaGreat
