/- Walks: scref6.Play. -/
import Derived.Test.YtmcgbdbhpnplmaaGreatSc7
import Derived.Test.YtmcgbdbhpnplmaaGreatMO
import Derived.Deep.Cut
import Derived.Deep.CutRange
namespace Go.Proofs.YtmcgbdbhpnplmaaGreat
open Go Go.RowKit
def yOut (s : Sto) : List Stp → List (Int × Int)
 | [] => []
 | x :: l => (yDo s x).2 :: yOut (yDo s x).1 l
theorem yTo_snoc (s : Sto) (l : List Stp) (x : Stp) : yTo s (l ++ [x]) = (yDo (yTo s l) x).1 := by unfold yTo; rw [List.foldl_append]; rfl
theorem yOut_snoc (x : Stp) : ∀ (l : List Stp) (s : Sto), yOut s (l ++ [x]) = yOut s l ++ [(yDo (yTo s l) x).2]
 | [], _ => rfl
 | y :: l, s => by
  show (yDo s y).2 :: yOut (yDo s y).1 (l ++ [x]) = _
  rw [yOut_snoc x l]
  rfl
theorem yOut_length : ∀ (l : List Stp) (s : Sto), (yOut s l).length = l.length
 | [], _ => rfl
 | y :: l, s => by
  show (yOut (yDo s y).1 l).length + 1 = l.length + 1
  rw [yOut_length l]
def yErrs (s : Sto) (l : List Stp) : List Int := (yOut s l).map fun x => x.2
def yNums (s : Sto) (l : List Stp) : List Int := (yOut s l).map fun x => x.1
theorem play_step (s : Sto) {l : List Stp} {a : Nat} (ha : a < l.length) : yTo s (l.take (a + 1)) = (yDo (yTo s (l.take a)) (l.getD a eStp.d)).1 ∧ yErrs s (l.take (a + 1)) = yErrs s (l.take a) ++ [(yDo (yTo s (l.take a)) (l.getD a eStp.d)).2.2] ∧ yNums s (l.take (a + 1)) = yNums s (l.take a) ++ [(yDo (yTo s (l.take a)) (l.getD a eStp.d)).2.1] := by
 rw [take_succ_getD eStp.d l a ha, yTo_snoc]
 unfold yErrs yNums
 rw [yOut_snoc, List.map_append, List.map_append]
 exact ⟨rfl, rfl, rfl⟩
theorem errs_len (s : Sto) (l : List Stp) (a : Nat) : (yErrs s (l.take a)).length ≤ a ∧ (yNums s (l.take a)).length ≤ a := by
 unfold yErrs yNums
 rw [List.length_map, List.length_map, yOut_length, List.length_take]
 omega
theorem Row.stp_x {T : List TypeId} {w : World} {base n c : Nat} {A : Option Addr} {l : List Stp} (h : Row eStp T w base (.slice A n c) l) {i : Nat} (hi : i < n) :
  ∃ b o u, A = some ⟨b, o, none⟩ ∧ b < w.heap.size ∧ ByT w base u (l.getD i eStp.d).deed.data ∧ ∀ w', Ext w w' → w'.cell? ⟨b, o + i * 7, none⟩ = some (.int .i64 (l.getD i eStp.d).kind) ∧ w'.cell? ⟨b, o + i * 7 + 1, none⟩ = some (.int .i64 (l.getD i eStp.d).n) ∧
   w'.cell? ⟨b, o + i * 7 + 2, none⟩ = some (.int .i64 (l.getD i eStp.d).m) ∧ w'.cell? ⟨b, o + i * 7 + 3, none⟩ = some (.int .i64 (l.getD i eStp.d).deed.kind) ∧ w'.cell? ⟨b, o + i * 7 + 4, none⟩ = some (.int .i64 (l.getD i eStp.d).deed.key) ∧
   w'.cell? ⟨b, o + i * 7 + 5, none⟩ = some (.int .i64 (l.getD i eStp.d).deed.n) ∧ w'.cell? ⟨b, o + i * 7 + 6, none⟩ = some u := by
 obtain ⟨b, o, cs, rfl, hb, _, ⟨u, rfl, hu⟩, hc⟩ := h.at_ hi
 exact ⟨b, o, u, rfl, hb, hu, fun w' hx => ⟨(hx.cell (p := ⟨b, _, none⟩) hb).trans (hc 0 _ rfl), (hx.cell (p := ⟨b, _, none⟩) hb).trans (hc 1 _ rfl), (hx.cell (p := ⟨b, _, none⟩) hb).trans (hc 2 _ rfl), (hx.cell (p := ⟨b, _, none⟩) hb).trans (hc 3 _ rfl), (hx.cell (p := ⟨b, _, none⟩) hb).trans (hc 4 _ rfl), (hx.cell (p := ⟨b, _, none⟩) hb).trans (hc 5 _ rfl), (hx.cell (p := ⟨b, _, none⟩) hb).trans (hc 6 _ rfl)⟩⟩
theorem OwnRow.keptT {α : Type} {E : El α} {T : List TypeId} {w w' : World} {rb base base' : Nat} {v : Value} {xs : List α} (k : OwnRow E w rb base v xs) (hg : w.grownBy w' v.ownBlock) (hT : E.ty ∉ 5 :: T) (hb : base' ≤ rb) : Kept T base' w w' := by
 obtain ⟨css, hc, ho⟩ := k
 exact Kept.app ho hg hT hb
set_option maxRecDepth 100000 in
set_option maxHeartbeats 4000000 in
theorem refPlay_v {T : List TypeId} {base : Nat} {v : Value} {l : List Stp} {w : World} (h : Row eStp T w base v l) :
  Calls Tryz.prog 16 #[v] w fun e w' => ∃ v' es ns, e = .returned (.tuple #[v', es, ns]) ∧ StoV tS w' w.heap.size v' (yPlay (l.take 100)) ∧ Row eErr [39] w' w.heap.size es (yErrs sNew (l.take 100)) ∧ Row eInt [3] w' w.heap.size ns (yNums sNew (l.take 100)) ∧ Ext w w' := by
 have hl := h.all (T' := [])
 clear h
 obtain ⟨A, n, c, rfl, hc, hcm, HN⟩ := hl.form
 unfold maxLen at hcm
 go_enter Tryz.func16, Tryz.ntmps16
 go_upto_region 1 with (fail)
 generalize hwn : World.alloc w _ = w1
 have hx : Ext w w1 := by rw [← hwn]; exact ext_alloc _ _
 have b2 : Box w1 w.heap.size 33 #[.slice none 0 0, .slice none 0 0, .slice none 0 0, .int .i64 0] := by rw [← hwn]; exact Box.new _ _ _ rfl
 clear hwn
 obtain ⟨g2, hg2⟩ : ∃ g, g = w.heap.size := ⟨_, rfl⟩
 have l2 : w.heap.size ≤ g2 := by omega
 rw [show Box w1 w.heap.size 33 #[.slice none 0 0, .slice none 0 0, .slice none 0 0, .int .i64 0] ↔ Box w1 g2 33 #[.slice none 0 0, .slice none 0 0, .slice none 0 0, .int .i64 0] by rw [hg2]] at b2
 rw [← hg2]
 clear hg2
 go_wp2_with fail
 refine (refStoNew_v _).mono ?_
 rintro e2 w2 ⟨v2, rfl, s2, he⟩
 have hx := ext_trans hx he
 have b2 := b2.ext he
 clear he
 obtain ⟨A2, n2, c2, E2, m2, e2, F2, k2, f2, rfl, _, _, _, _, _, _, _, _⟩ := s2.form
 go_upto_region 2 with (fail)
 generalize hwn : World.alloc w2 _ = w3
 have he : Ext w2 w3 := by rw [← hwn]; exact ext_alloc _ _
 have b5 : Box w3 w2.heap.size 33 #[.slice A2 n2 c2, .slice E2 m2 e2, .slice F2 k2 f2, .int .i64 sNew.next] := by rw [← hwn]; exact Box.new _ _ _ (by simp)
 clear hwn
 have l5 := b2.lt
 have hx := ext_trans hx he
 have b2 := b2.ext he
 have s2 := s2.ext he
 clear he
 obtain ⟨g5, hg5⟩ : ∃ g, g = w2.heap.size := ⟨_, rfl⟩
 rw [← hg5] at b5 l5 ⊢
 clear hg5
 have s5 := s2.sub (T' := tS) (base' := w.heap.size) (List.Subset.refl _) (Nat.zero_le _)
 clear s2
 go_wp2_with fail
 go_loopw [6, 7, 16] (fun ve vn i wr => ∃ a : Nat, a ≤ n ∧ a ≤ 100 ∧ i = .int .i64 a ∧ (∃ A n c E m e F k f, Box wr g5 33 #[.slice A n c, .slice E m e, .slice F k f, .int .i64 (yTo sNew (l.take a)).next] ∧ StoV tS wr w.heap.size (.agg #[.slice A n c, .slice E m e, .slice F k f, .int .i64 (yTo sNew (l.take a)).next]) (yTo sNew (l.take a))) ∧ OwnRow eErr wr (g5 + 1) 0 ve (yErrs sNew (l.take a)) ∧ OwnRow eInt wr (g5 + 1) 0 vn (yNums sNew (l.take a)) ∧ Box wr g2 33 #[.slice none 0 0, .slice none 0 0, .slice none 0 0, .int .i64 0] ∧ Ext w wr) (fun _ _ i _ => n - (intOf i).toNat)
 case atStart => exact ⟨0, by omega, by omega, rfl, ⟨_, _, _, _, _, _, _, _, _, b5, s5⟩, OwnRow.nil _ _ _ _, OwnRow.nil _ _ _ _, b2, hx⟩
 case round =>
  clear hx b2 b5 s5
  obtain ⟨a, ha, h100, rfl, ⟨A5, n5, c5, E5, m5, e5, F5, k5, f5, b5, s5⟩, oe, on, b2, hx⟩ := hrel
  have hz := hx.size
  have l5z := b5.lt
  by_cases hlt : a < n
  ·have i0 : (0 : Int) ≤ (a : Int) := by omega
   have i1 : (a : Int) < (n : Int) := by omega
   have hal : a < l.length := HN.out ▸ hlt
   obtain ⟨g1, o1, u1, rfl, hg1, hu1, f1⟩ := hl.stp_x hlt
   have HST := Lib.hid (play_step sNew hal)
   have HG := Lib.hid (yPlay_good (l.take a))
   have HLE := Lib.hid (errs_len sNew l a)
   unfold yPlay at HG
   have HFIN : a = 100 → Hid (l.take a = l.take 100) := fun h => Lib.hid (by rw [h])
   by_cases hq : a = 100
   ·have HFIN := HFIN hq
    have qa : ((a : Int) == 100) = true := by rw [beq_iff_eq]; omega
    clear HST HG HLE hq
    generalize l.getD a eStp.d = x at f1 hu1
    obtain ⟨AX, nx, cx, rfl, _, _⟩ := hu1.form
    obtain ⟨x0, x1, x2, x3, x4, x5, x6⟩ := f1 _ hx
    clear f1 hg1 hu1
    go_upto_region 7 with (fail)
    generalize hwn : World.alloc wr _ = w3
    have he : Ext wr w3 := by rw [← hwn]; exact ext_alloc _ _
    clear hwn x0 x1 x2 x3 x4 x5 x6
    have hx := ext_trans hx he
    have s5 := s5.ext he
    have b5 := b5.ext he
    have b2 := b2.ext he
    have oe := oe.ext he
    have on := on.ext he
    clear he
    have kb := b2.kd
    obtain ⟨b2_0, b2_1, b2_2, b2_3⟩ := b2.c4
    have b2_z := b2.free
    have b2_l := b2.lt
    obtain ⟨b5_0, b5_1, b5_2, b5_3⟩ := b5.c4
    have b5_z := b5.free
    have b5_l := b5.lt
    go_wp2_with fail
    ((try simp only [Exit.inBlock, Exit.then]); refine bodyPost_ret (v := ?_) ?resultOf rfl ?_; case resultOf => (rw [results_ctt rfl]; go_simp; rfl))
    try clear b2_0 b2_1 b2_2 b2_3 b2_z b2_l b5_0 b5_1 b5_2 b5_3 b5_z b5_l
    refine ⟨_, _, _, rfl, ?_, ?_, ?_, ?_⟩
    ·rw [← HFIN.out]
     exact s5.kept (by (repeat (with_reducible (first | assumption | exact Kept.refl _ _ _ | (apply Kept.setK; rotate_left; (repeat (first | assumption | apply Kd.set | apply Kd.alloc | apply Kd.drew)); decide; omega) | refine Kept.allocK ?_ _ | refine Kept.drewK ?_))))
    ·rw [← HFIN.out]
     exact (oe.row (T := [39]) (base := 0) (base' := w.heap.size) (by decide) (Nat.zero_le _)).kept (by (repeat (with_reducible (first | assumption | exact Kept.refl _ _ _ | (apply Kept.setK; rotate_left; (repeat (first | assumption | apply Kd.set | apply Kd.alloc | apply Kd.drew)); decide; omega) | refine Kept.allocK ?_ _ | refine Kept.drewK ?_))))
    ·rw [← HFIN.out]
     exact (on.row (T := [3]) (base := 0) (base' := w.heap.size) (by decide) (Nat.zero_le _)).kept (by (repeat (with_reducible (first | assumption | exact Kept.refl _ _ _ | (apply Kept.setK; rotate_left; (repeat (first | assumption | apply Kd.set | apply Kd.alloc | apply Kd.drew)); decide; omega) | refine Kept.allocK ?_ _ | refine Kept.drewK ?_))))
    ·(repeat (with_reducible (first | assumption | exact Below.refl _ _ | refine Below.setCell ?_ (by simp <;> omega) _ | refine Below.alloc ?_ (by simp <;> omega) _ | refine Below.drew ?_ | refine below_drewN ?_ _)))
   ·have qa : ((a : Int) == 100) = false := by rw [beq_eq_false_iff_ne]; omega
    generalize yTo sNew (l.take a) = y at b5 s5 HST HG
    generalize l.getD a eStp.d = x at f1 hu1 HST
    generalize yErrs sNew (l.take a) = es at oe HST HLE
    generalize yNums sNew (l.take a) = ns at on HST HLE
    obtain ⟨AX, nx, cx, rfl, _, _⟩ := hu1.form
    obtain ⟨x0, x1, x2, x3, x4, x5, x6⟩ := f1 _ hx
    have hu1 := hu1.ext hx
    clear f1 hg1 HFIN
    go_upto_region 8 with (fail)
    generalize hwn : World.alloc wr _ = w3
    have he : Ext wr w3 := by rw [← hwn]; exact ext_alloc _ _
    have b9 : Box w3 wr.heap.size 67 #[.int .i64 x.kind, .int .i64 x.n, .int .i64 x.m, .int .i64 x.deed.kind, .int .i64 x.deed.key, .int .i64 x.deed.n, .slice AX nx cx] := by rw [← hwn]; exact Box.new _ _ _ (by simp)
    clear hwn x0 x1 x2 x3 x4 x5 x6
    have hx := ext_trans hx he
    have s5 := s5.ext he
    have b5 := b5.ext he
    have b2 := b2.ext he
    have oe := oe.ext he
    have on := on.ext he
    have hu1 := hu1.ext he
    clear he
    obtain ⟨g9, hg9⟩ : ∃ g, g = wr.heap.size := ⟨_, rfl⟩
    rw [← hg9] at b9 ⊢
    clear hg9
    obtain ⟨b5_0, b5_1, b5_2, b5_3⟩ := b5.c4
    have b5_z := b5.free
    have b5_l := b5.lt
    obtain ⟨b9_0, b9_1, b9_2, b9_3, b9_4, b9_5, b9_6⟩ := b9.c7
    have b9_z := b9.free
    have b9_l := b9.lt
    go_wp2_with fail
    refine (refStep_v (x := x) (s := y) hx.size s5 HG.out ⟨_, rfl, hu1⟩).mono ?_
    rintro e4 w4 ⟨v4, rfl, s4, he⟩
    try clear b5_0 b5_1 b5_2 b5_3 b5_z b5_l b9_0 b9_1 b9_2 b9_3 b9_4 b9_5 b9_6 b9_z b9_l
    have hx := ext_trans hx he
    have b5 := b5.ext he
    have b9 := b9.ext he
    have b2 := b2.ext he
    have oe := oe.ext he
    have on := on.ext he
    clear he
    clear s5 hu1 b9
    obtain ⟨A4, n4, c4, E4, m4, e4, F4, k4, f4, rfl, _, _, _, _, _, _, _, _⟩ := s4.form
    go_upto_region 9 with (fail)
    generalize hwn : World.alloc w4 _ = w5
    have he : Ext w4 w5 := by rw [← hwn]; exact ext_alloc _ _
    have b10 : Box w5 w4.heap.size 33 #[.slice A4 n4 c4, .slice E4 m4 e4, .slice F4 k4 f4, .int .i64 (yDo y x).1.next] := by rw [← hwn]; exact Box.new _ _ _ (by simp)
    clear hwn
    have hx := ext_trans hx he
    have s4 := s4.ext he
    have b5 := b5.ext he
    have b2 := b2.ext he
    have oe := oe.ext he
    have on := on.ext he
    clear he
    obtain ⟨g10, hg10⟩ : ∃ g, g = w4.heap.size := ⟨_, rfl⟩
    rw [← hg10] at b10 ⊢
    clear hg10
    have kb := b5.kd
    obtain ⟨b5_0, b5_1, b5_2, b5_3⟩ := b5.c4
    have b5_z := b5.free
    have b5_l := b5.lt
    obtain ⟨b10_0, b10_1, b10_2, b10_3⟩ := b10.c4
    have b10_z := b10.free
    have b10_l := b10.lt
    go_upto_region 10 with (fail)
    try clear b5_0 b5_1 b5_2 b5_3 b5_z b5_l b10_0 b10_1 b10_2 b10_3 b10_z b10_l
    generalize hwn : World.setCell (World.setCell (World.setCell (World.setCell w5 _ _) _ _) _ _) _ _ = w6
    have b2 : Box w6 g2 33 #[.slice none 0 0, .slice none 0 0, .slice none 0 0, .int .i64 0] := by rw [← hwn]; (repeat (with_reducible (first | assumption | refine Box.alloc ?_ _ | refine Box.setOther ?_ (by simp <;> omega) _)))
    have s4 := s4.kept (w' := w6) (by rw [← hwn]; (repeat (with_reducible (first | assumption | exact Kept.refl _ _ _ | (apply Kept.setK; rotate_left; (repeat (first | assumption | apply Kd.set | apply Kd.alloc | apply Kd.drew)); decide; omega) | refine Kept.allocK ?_ _ | refine Kept.drewK ?_))))
    have oe := oe.kept (w' := w6) (T := [39]) (base' := w.heap.size) (by decide) (Nat.zero_le _) (by rw [← hwn]; (repeat (with_reducible (first | assumption | exact Kept.refl _ _ _ | (apply Kept.setK; rotate_left; (repeat (first | assumption | apply Kd.set | apply Kd.alloc | apply Kd.drew)); decide; omega) | refine Kept.allocK ?_ _ | refine Kept.drewK ?_))))
    have on := on.kept (w' := w6) (T := [3]) (base' := w.heap.size) (by decide) (Nat.zero_le _) (by rw [← hwn]; (repeat (with_reducible (first | assumption | exact Kept.refl _ _ _ | (apply Kept.setK; rotate_left; (repeat (first | assumption | apply Kd.set | apply Kd.alloc | apply Kd.drew)); decide; omega) | refine Kept.allocK ?_ _ | refine Kept.drewK ?_))))
    have hx : Ext w w6 := by rw [← hwn]; (repeat (with_reducible (first | assumption | exact Below.refl _ _ | refine Below.setCell ?_ (by simp <;> omega) _ | refine Below.alloc ?_ (by simp <;> omega) _ | refine Below.drew ?_ | refine below_drewN ?_ _)))
    have b5 : Box w6 g5 33 #[.slice A4 n4 c4, .slice E4 m4 e4, .slice F4 k4 f4, .int .i64 (yDo y x).1.next] := by rw [← hwn]; exact (((b5.set 0 _).set 1 _).set 2 _).set 3 _
    clear hwn kb b10
    have l6 := b5.lt
    have HL9 : Hid (es.length + 1 ≤ lim) := Lib.hid (by have := HLE.out; rw [lim_def]; omega)
    have HL8 : Hid (ns.length + 1 ≤ lim) := Lib.hid (by have := HLE.out; rw [lim_def]; omega)
    go_wp2_with (at_builtin; (first | (refine wpl_eno rfl (.tmp 31) (.tmp 33) rfl rfl (oe.ext (ext_alloc _ _)) rfl (Sl.new _ _ _ _ 1 1 rfl (by unfold maxLen; omega) (Nat.lt_succ_self _)) (y := (yDo y x).2.2) rfl HL9.out (by rw [size_alloc]; omega) (by omega) ?_; intro v7 w7 oe7 hg7 hb7; have kt := fun T b (hT : 39 ∉ 5 :: T) hb => (oe.ext (ext_alloc _ _)).keptT (T := T) (base' := b) hg7 hT hb; have on7 := (on.ext (ext_alloc _ _)).kept (T := [3]) (by decide) (Nat.le_refl 0) (kt _ 0 (by decide) (Nat.zero_le _)); have s7 := (s4.ext (ext_alloc _ _)).kept (kt _ _ (by decide) (by omega)); have b57 := (b5.alloc _).below hb7 (by omega); have b27 := (b2.alloc _).below hb7 (by omega); have hx7 := (hx.alloc hx.size _).trans (hb7.mono (by omega)); have hz7 := hb7.size; rw [size_alloc] at hz7; clear kt) | (refine wpl_int rfl (.tmp 35) (.tmp 37) rfl rfl (on7.ext (ext_alloc _ _)) rfl (Sl.new _ _ _ _ 1 1 rfl (by unfold maxLen; omega) (Nat.lt_succ_self _)) (y := (yDo y x).2.1) rfl HL8.out (by rw [size_alloc]; omega) (by omega) ?_; intro v8 w8 on8 hg8 hb8; have kt := fun T b (hT : 3 ∉ 5 :: T) hb => (on7.ext (ext_alloc _ _)).keptT (T := T) (base' := b) hg8 hT hb; have oe8 := (oe7.ext (ext_alloc _ _)).kept (T := [39]) (by decide) (Nat.le_refl 0) (kt _ 0 (by decide) (Nat.zero_le _)); have s8 := (s7.ext (ext_alloc _ _)).kept (kt _ _ (by decide) (by omega)); have b58 := (b57.alloc _).below hb8 (by omega); have b28 := (b27.alloc _).below hb8 (by omega); have hx8 := (hx7.alloc hx7.size _).trans (hb8.mono (by omega)); clear kt)))
    refine ⟨⟨a + 1, by omega, by omega, rfl, ?_, ?_, ?_, b28, hx8⟩, ?_⟩
    ·rw [HST.out.1]
     exact ⟨_, _, _, _, _, _, _, _, _, b58, s8⟩
    ·rw [HST.out.2.1]
     exact oe8
    ·rw [HST.out.2.2]
     exact on8
    ·simp only [intOf]
     omega
  ·obtain rfl : a = n := by omega
   have HFIN := Lib.hid (show l.take a = l.take 100 by rw [HN.out, List.take_length, List.take_of_length_le (by have := HN.out; omega)])
   have kb := b2.kd
   obtain ⟨b2_0, b2_1, b2_2, b2_3⟩ := b2.c4
   have b2_z := b2.free
   have b2_l := b2.lt
   obtain ⟨b5_0, b5_1, b5_2, b5_3⟩ := b5.c4
   have b5_z := b5.free
   have b5_l := b5.lt
   go_wp2_with fail
   ((try simp only [Exit.inBlock, Exit.then]); refine bodyPost_ret (v := ?_) ?resultOf rfl ?_; case resultOf => (rw [results_ctt rfl]; go_simp; rfl))
   try clear b2_0 b2_1 b2_2 b2_3 b2_z b2_l b5_0 b5_1 b5_2 b5_3 b5_z b5_l
   refine ⟨_, _, _, rfl, ?_, ?_, ?_, ?_⟩
   ·rw [← HFIN.out]
    exact s5.kept (by (repeat (with_reducible (first | assumption | exact Kept.refl _ _ _ | (apply Kept.setK; rotate_left; (repeat (first | assumption | apply Kd.set | apply Kd.alloc | apply Kd.drew)); decide; omega) | refine Kept.allocK ?_ _ | refine Kept.drewK ?_))))
   ·rw [← HFIN.out]
    exact (oe.row (T := [39]) (base := 0) (base' := w.heap.size) (by decide) (Nat.zero_le _)).kept (by (repeat (with_reducible (first | assumption | exact Kept.refl _ _ _ | (apply Kept.setK; rotate_left; (repeat (first | assumption | apply Kd.set | apply Kd.alloc | apply Kd.drew)); decide; omega) | refine Kept.allocK ?_ _ | refine Kept.drewK ?_))))
   ·rw [← HFIN.out]
    exact (on.row (T := [3]) (base := 0) (base' := w.heap.size) (by decide) (Nat.zero_le _)).kept (by (repeat (with_reducible (first | assumption | exact Kept.refl _ _ _ | (apply Kept.setK; rotate_left; (repeat (first | assumption | apply Kd.set | apply Kd.alloc | apply Kd.drew)); decide; omega) | refine Kept.allocK ?_ _ | refine Kept.drewK ?_))))
   ·(repeat (with_reducible (first | assumption | exact Below.refl _ _ | refine Below.setCell ?_ (by simp <;> omega) _ | refine Below.alloc ?_ (by simp <;> omega) _ | refine Below.drew ?_ | refine below_drewN ?_ _)))
end Go.Proofs.YtmcgbdbhpnplmaaGreat
