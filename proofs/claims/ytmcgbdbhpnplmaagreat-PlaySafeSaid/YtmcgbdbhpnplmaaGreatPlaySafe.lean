/- The statement PlaySafe: the walk of the law. -/
import Derived.Test.YtmcgbdbhpnplmaaGreatAlive11
import Derived.Test.YtmcgbdbhpnplmaaGreatSt7
namespace Go.Proofs.YtmcgbdbhpnplmaaGreat
open Go Go.RowKit
theorem do_is {s : Sto} {n m : Int} {d : Ded} : yDo s ⟨1, n, m, d⟩ = sDo s d := by unfold yDo; rw [if_pos rfl]
theorem do_err {s : Sto} {d : Ded} (h : (sDo s d).2.2 ≠ 0) : (sDo s d).2.1 = 0 := by
 have e : sDo s d = sBegin s d := by
  unfold sDo at h ⊢
  split
  ·rename_i h0
   rw [if_pos h0] at h
   exact absurd rfl h
  ·rfl
 rw [e] at h ⊢
 exact (begin_err h).2
theorem safe_made {s : Sto} (g : tGood s) {d : Ded} (hk : d.kind ≠ 3) (h : (sDo s d).2.2 = 0) : mMade d (sDo s d).2.1 ∈ sRecs (sDo s d).1 ∧ tGood (sDo s d).1 ∧ (d.kind = 1 ∨ d.kind = 2) := by
 have hw : mWrong d = 0 := Decidable.byContradiction fun hw => by
  rw [(store_wrong s d hw).1] at h
  exact hw h
 obtain ⟨E1, E2, P, _⟩ := store_model g d hw
 have h2 : (mDo (sRecs s) d).2.2 = 0 := E1.symm.trans h
 obtain ⟨_, _, e⟩ := mDo_made hk h2
 refine ⟨?_, ?_, ?_⟩
 ·rw [E2]
  refine P.mem_iff.2 ?_
  rw [e]
  simp
 ·have := (step_tight g (x := ⟨1, 0, 0, d⟩) (by unfold gentle; rw [if_pos (.inl (by show ¬ (1 : Int) = 3; omega))])).1
  rwa [do_is] at this
 ·rcases (mWrong_zero hw).1 with h | h | h
  ·exact .inl h
  ·exact .inr h
  ·exact absurd h hk
def hitR (d : Ded) (nv : Int) (r : Rec) : Bool := (r.key == d.key) && ((r.ver == nv) && ((r.data == d.data) && ((r.kind == 2) == (d.kind == 1))))
theorem hit_made {d : Ded} {nv : Int} {l : List Rec} (hk : d.kind = 1 ∨ d.kind = 2) (h : mMade d nv ∈ l) : l.any (hitR d nv) = true := by
 rw [List.any_eq_true]
 refine ⟨_, h, ?_⟩
 unfold hitR mMade
 rcases hk with hk | hk <;> simp [hk]
set_option maxRecDepth 100000 in
set_option maxHeartbeats 4000000 in
theorem playSafe_law (w : World) {v dv mv : Value} {l more : List Stp} {d : Ded} (hl : Row eStp [] w w.heap.size v l) (hd : DedV w w.heap.size dv d) (hm : Row eStp [] w w.heap.size mv more) :
  Calls Tryz.prog 8 #[v, dv, mv] w fun e w' => e = .returned (.bool true) ∧ Ext w w' := by
 obtain ⟨A, n, c, rfl, _, _, _⟩ := hl.form
 obtain ⟨A0, n0, c0, rfl, _, hdy⟩ := hd.at_
 obtain ⟨A2, n2, c2, rfl, _, hm2, HN2⟩ := hm.form
 unfold maxLen at hm2
 go_enter Tryz.func8, Tryz.ntmps8
 go_upto_region 1 with (fail)
 generalize hwn : World.alloc w _ = w0
 have hx : Ext w w0 := by rw [← hwn]; exact ext_alloc _ _
 have b4 : Box w0 w.heap.size 25 #[.int .i64 d.kind, .int .i64 d.key, .int .i64 d.n, .slice A0 n0 c0] := by rw [← hwn]; exact Box.new _ _ _ rfl
 clear hwn
 have hl := hl.ext hx
 have hd := hd.ext hx
 obtain ⟨gd, hgd⟩ : ∃ g, g = w.heap.size := ⟨_, rfl⟩
 rw [show Box w0 w.heap.size 25 #[.int .i64 d.kind, .int .i64 d.key, .int .i64 d.n, .slice A0 n0 c0] ↔ Box w0 gd 25 #[.int .i64 d.kind, .int .i64 d.key, .int .i64 d.n, .slice A0 n0 c0] by rw [hgd]] at b4
 rw [← hgd]
 clear hgd
 have hdy := hdy.ext hx
 go_wp2_with fail
 refine (alive11_w _).mono ?_
 rintro e0 w1 ⟨rfl, he⟩
 have hx := ext_trans hx he
 have hl := hl.ext he
 have hdy := hdy.ext he
 have b4 := b4.ext he
 clear he
 by_cases h60 : 60 < n2
 ·have q : decide ((60 : Int) < (n2 : Int)) = true := by simp; omega
  have q' : decide (60 < n2) = true := by simp; omega
  clear h60
  obtain ⟨b4_0, b4_1, b4_2, b4_3⟩ := b4.c4
  have b4_z := b4.free
  have b4_l := b4.lt
  go_wp2_with fail
  try clear b4_0 b4_1 b4_2 b4_3 b4_z b4_l
  go_ret
  exact ⟨rfl, hx⟩
 have q : decide ((60 : Int) < (n2 : Int)) = false := by simp; omega
 have q' : decide (60 < n2) = false := by simp; omega
 clear h60
 by_cases hk3 : d.kind = 3
 ·have qk : (d.kind == 3) = true := by simpa using hk3
  clear hk3
  obtain ⟨b4_0, b4_1, b4_2, b4_3⟩ := b4.c4
  have b4_z := b4.free
  have b4_l := b4.lt
  go_wp2_with fail
  try clear b4_0 b4_1 b4_2 b4_3 b4_z b4_l
  go_ret
  exact ⟨rfl, hx⟩
 have qk : (d.kind == 3) = false := by simpa using hk3
 have HK3 := Lib.hid hk3
 clear hk3
 obtain ⟨b4_0, b4_1, b4_2, b4_3⟩ := b4.c4
 have b4_z := b4.free
 have b4_l := b4.lt
 go_wp2_with fail
 refine (refGently_v hl).mono ?_
 rintro e1 w2 ⟨v1, rfl, s1, he⟩
 try clear b4_0 b4_1 b4_2 b4_3 b4_z b4_l
 have hx := ext_trans hx he
 have hdy := hdy.ext he
 have b4 := b4.ext he
 clear he
 clear hl q q' qk
 have HG := Lib.hid (gTo_tight new_tight (l.take 100))
 generalize gTo sNew (l.take 100) = s at s1 HG
 obtain ⟨A1, n1, c1, E1, m1, e1, F1, k1, f1, rfl, _, _, _, _, _, _, _, _⟩ := s1.form
 go_upto_region 6 with (fail)
 generalize hwn : World.alloc w2 _ = w3
 have he : Ext w2 w3 := by rw [← hwn]; exact ext_alloc _ _
 have b7 : Box w3 w2.heap.size 33 #[.slice A1 n1 c1, .slice E1 m1 e1, .slice F1 k1 f1, .int .i64 s.next] := by rw [← hwn]; exact Box.new _ _ _ (by simp)
 clear hwn
 have l7 := b4.lt
 have z7 := hx.size
 have hx := ext_trans hx he
 have s1 := s1.ext he
 have hdy := hdy.ext he
 have b4 := b4.ext he
 clear he
 obtain ⟨g7, hgk⟩ : ∃ g, g = w2.heap.size := ⟨_, rfl⟩
 rw [← hgk] at b7 l7 z7 ⊢
 clear hgk
 obtain ⟨b4_0, b4_1, b4_2, b4_3⟩ := b4.c4
 have b4_z := b4.free
 have b4_l := b4.lt
 obtain ⟨b7_0, b7_1, b7_2, b7_3⟩ := b7.c4
 have b7_z := b7.free
 have b7_l := b7.lt
 go_wp2_with fail
 refine (playDo_v (x := ⟨1, 0, 0, d⟩) s1 HG.out.good ⟨_, rfl, hdy⟩).mono ?_
 rintro e3 w4 ⟨v4, rfl, s4, he⟩
 try clear b4_0 b4_1 b4_2 b4_3 b4_z b4_l b7_0 b7_1 b7_2 b7_3 b7_z b7_l
 have hx := ext_trans hx he
 have hdy := hdy.ext he
 have b4 := b4.ext he
 have b7 := b7.ext he
 clear he
 rw [do_is] at s4 ⊢
 have HDE := Lib.hid (do_err (s := s) (d := d))
 have HSM := Lib.hid (safe_made HG.out HK3.out)
 clear s1 HG
 generalize (sDo s d).2.1 = nv at HDE HSM ⊢
 generalize (sDo s d).2.2 = qq at HDE HSM ⊢
 generalize (sDo s d).1 = y at s4 HSM
 obtain ⟨A4, n4, c4, E4, m4, e4, F4, k4, f4, rfl, _, _, _, _, _, _, _, _⟩ := s4.form
 have kb := b7.kd
 obtain ⟨b7_0, b7_1, b7_2, b7_3⟩ := b7.c4
 have b7_z := b7.free
 have b7_l := b7.lt
 go_upto_region 7 with (fail)
 try clear b7_0 b7_1 b7_2 b7_3 b7_z b7_l
 generalize hwn : World.setCell (World.setCell (World.setCell (World.setCell w4 _ _) _ _) _ _) _ _ = w5
 have b4 : Box w5 gd 25 #[.int .i64 d.kind, .int .i64 d.key, .int .i64 d.n, .slice A0 n0 c0] := by rw [← hwn]; (repeat (with_reducible (first | assumption | refine Box.alloc ?_ _ | refine Box.setOther ?_ (by simp <;> omega) _)))
 have s7 := s4.kept (w' := w5) (by rw [← hwn]; (repeat (with_reducible (first | assumption | exact Kept.refl _ _ _ | (apply Kept.setK; rotate_left; (repeat (first | assumption | apply Kd.set | apply Kd.alloc | apply Kd.drew)); decide; omega) | refine Kept.allocK ?_ _ | refine Kept.drewK ?_))))
 have hdy : ByT w5 w.heap.size (.slice A0 n0 c0) d.data := hdy.kept (T := []) (by rw [← hwn]; (repeat (with_reducible (first | assumption | exact Kept.refl _ _ _ | (apply Kept.setK; rotate_left; (repeat (first | assumption | apply Kd.set | apply Kd.alloc | apply Kd.drew)); decide; omega) | refine Kept.allocK ?_ _ | refine Kept.drewK ?_))))
 have hx : Ext w w5 := by rw [← hwn]; (repeat (with_reducible (first | assumption | exact Below.refl _ _ | refine Below.setCell ?_ (by simp <;> omega) _ | refine Below.alloc ?_ (by simp <;> omega) _ | refine Below.drew ?_ | refine below_drewN ?_ _)))
 have b7 : Box w5 g7 33 #[.slice A4 n4 c4, .slice E4 m4 e4, .slice F4 k4 f4, .int .i64 y.next] := by rw [← hwn]; exact (((b7.set 0 _).set 1 _).set 2 _).set 3 _
 clear hwn kb s4
 by_cases hq : qq = 0
 case neg =>
  have q : (qq != 0) = true := by simpa using hq
  obtain rfl : nv = 0 := HDE.out hq
  clear hq HDE HSM
  go_wp2_with fail
  go_ret
  exact ⟨rfl, hx⟩
 obtain rfl := hq
 have HSM := Lib.hid (HSM.out rfl)
 have HKD := Lib.hid HSM.out.2.2
 have HGY := Lib.hid (And.intro HSM.out.2.1 HSM.out.1)
 clear HDE HSM
 go_upto_region 10 with (fail)
 go_loopw [41] (fun i wr => ∃ b : Nat, b ≤ n2 ∧ i = .int .i64 b ∧ (∃ A n c E m e F k f y, Hid (tGood y ∧ mMade d nv ∈ sRecs y) ∧ Box wr g7 33 #[.slice A n c, .slice E m e, .slice F k f, .int .i64 y.next] ∧ StoV tS wr 0 (.agg #[.slice A n c, .slice E m e, .slice F k f, .int .i64 y.next]) y) ∧ Box wr gd 25 #[.int .i64 d.kind, .int .i64 d.key, .int .i64 d.n, .slice A0 n0 c0] ∧ ByT wr w.heap.size (.slice A0 n0 c0) d.data ∧ Ext w wr) (fun i _ => n2 - (intOf i).toNat)
 case atStart => exact ⟨0, by omega, rfl, ⟨_, _, _, _, _, _, _, _, _, _, HGY, b7, s7⟩, b4, hdy, hx⟩
 case round =>
  clear hx b7 s7 b4 hdy HGY
  obtain ⟨b, hb, rfl, ⟨A7, n7, c7, E7, m7, e7, F7, k7, f7, y, HGY, b7, s7⟩, b4, hdy, hx⟩ := hrel
  obtain ⟨wz, rfl⟩ : ∃ x, x = wr := ⟨_, rfl⟩
  have l7z := b7.lt
  by_cases hlt : b < n2
  ·have i0 : (0 : Int) ≤ (b : Int) := by omega
   have i1 : (b : Int) < (n2 : Int) := by omega
   obtain ⟨g1, o1, u1, rfl, hg1, hu1, f1⟩ := hm.stp_x hlt
   generalize more.getD b eStp.d = x at f1 hu1
   obtain ⟨AX, nx, cx, rfl, _, _⟩ := hu1.form
   obtain ⟨x0, x1, x2, x3, x4, x5, x6⟩ := f1 _ hx
   have hu1 := hu1.ext hx
   clear f1 hg1
   go_upto_region 12 with (fail)
   generalize hwn : World.alloc wz _ = w10
   have he : Ext wz w10 := by rw [← hwn]; exact ext_alloc _ _
   have b11 : Box w10 wz.heap.size 67 #[.int .i64 x.kind, .int .i64 x.n, .int .i64 x.m, .int .i64 x.deed.kind, .int .i64 x.deed.key, .int .i64 x.deed.n, .slice AX nx cx] := by rw [← hwn]; exact Box.new _ _ _ (by simp)
   clear hwn x0 x1 x2 x3 x4 x5 x6
   have hx := ext_trans hx he
   have s7 := s7.ext he
   have hdy := hdy.ext he
   have b4 := b4.ext he
   have b7 := b7.ext he
   have hu1 := hu1.ext he
   clear he
   obtain ⟨g11, hg11⟩ : ∃ g, g = wz.heap.size := ⟨_, rfl⟩
   rw [← hg11] at b11 ⊢
   clear hg11
   obtain ⟨b7_0, b7_1, b7_2, b7_3⟩ := b7.c4
   have b7_z := b7.free
   have b7_l := b7.lt
   obtain ⟨b11_0, b11_1, b11_2, b11_3, b11_4, b11_5, b11_6⟩ := b11.c7
   have b11_z := b11.free
   have b11_l := b11.lt
   go_wp2_with fail
   refine (refGentle_v s7 HGY.out.1.good ⟨_, rfl, hu1⟩).mono ?_
   rintro e11 w11 ⟨rfl, he⟩
   try clear b7_0 b7_1 b7_2 b7_3 b7_z b7_l b11_0 b11_1 b11_2 b11_3 b11_4 b11_5 b11_6 b11_z b11_l
   have hx := ext_trans hx he
   have s7 := s7.ext he
   have hdy := hdy.ext he
   have b4 := b4.ext he
   have b7 := b7.ext he
   have b11 := b11.ext he
   have hu1 := hu1.ext he
   clear he
   cases hgt : gentle y x with
   | false =>
    clear hgt hu1 b11
    go_upto_region 16 with (fail)
    obtain ⟨b7_0, b7_1, b7_2, b7_3⟩ := b7.c4
    have b7_z := b7.free
    have b7_l := b7.lt
    go_wp2_with fail
    refine (refRecs_v s7 HGY.out.1.good.fine.len).mono ?_
    rintro e15 w15 ⟨v15, rfl, o15, he⟩
    try clear b7_0 b7_1 b7_2 b7_3 b7_z b7_l
    have hx := ext_trans hx he
    have hdy := hdy.ext he
    have b4 := b4.ext he
    have b7 := b7.ext he
    clear he
    have HHIT := Lib.hid (hit_made HKD.out HGY.out.2)
    have r15 := o15.row (T := [51]) (by decide) (Nat.le_refl _)
    clear o15 s7 b7 HGY
    generalize sRecs y = rs at r15 HHIT
    obtain ⟨A15, n15, c15, rfl, _, hm15, HN15⟩ := r15.form
    unfold maxLen at hm15
    go_upto_region 18 with (fail)
    go_loopw [12, 89] (fun vq i wq => ∃ (a : Nat) (q : Bool), a ≤ n15 ∧ i = .int .i64 a ∧ vq = .bool q ∧ Hid (q = (rs.take a).any (hitR d nv)) ∧ Ext w15 wq) (fun _ i _ => n15 - (intOf i).toNat)
    case atStart => exact ⟨0, false, by omega, rfl, rfl, Lib.hid rfl, Below.refl _ _⟩
    case round =>
     obtain ⟨a, q, ha, rfl, rfl, HQ, hxq⟩ := hrel
     by_cases hla : a < n15
     ·have i0 : (0 : Int) ≤ (a : Int) := by omega
      have i1 : (a : Int) < (n15 : Int) := by omega
      have HA := Lib.hid (any_take rs (hitR d nv) (i := a) (by rw [← HN15.out]; exact hla))
      obtain ⟨g1, o1, u1, rfl, hg1, hu1, f1⟩ := r15.rec_x hla
      generalize rs.getD a rZero = r at hu1 f1 HA
      rw [← HQ.out] at HA
      obtain ⟨AX, nx, cx, rfl, _, _⟩ := hu1.form
      obtain ⟨x0, x1, x2, x3⟩ := f1 _ hxq
      have hu1 := hu1.ext hxq
      have hdy := hdy.ext hxq
      have b4 := b4.ext hxq
      clear f1 hg1
      go_upto_region 20 with (fail)
      generalize hwn : World.alloc wr _ = w20
      have he : Ext wr w20 := by rw [← hwn]; exact ext_alloc _ _
      have b14 : Box w20 wr.heap.size 51 #[.int .i64 r.kind, .int .i64 r.key, .int .i64 r.ver, .slice AX nx cx] := by rw [← hwn]; exact Box.new _ _ _ (by simp)
      clear hwn x0 x1 x2 x3
      have hxq := ext_trans hxq he
      have hu1 := hu1.ext he
      have hdy := hdy.ext he
      have b4 := b4.ext he
      clear he
      cases q with
      | true =>
       go_wp2_with fail
       refine ⟨⟨a + 1, true, by omega, rfl, rfl, Lib.hid (by rw [HA.out]; rfl), hxq⟩, ?_⟩
       simp only [intOf]
       omega
      | false =>
       have HA := Lib.hid (show (rs.take (a + 1)).any (hitR d nv) = ((r.key == d.key) && ((r.ver == nv) && ((r.data == d.data) && ((r.kind == 2) == (d.kind == 1))))) by rw [HA.out]; rfl)
       obtain ⟨_, _, _, e1, hy1, _⟩ := hu1.form
       cases e1
       obtain ⟨_, _, _, e2, hy2, _⟩ := hdy.form
       cases e2
       have cv1 := run_str hy1
       have cv2 := run_str hy2
       cases q1 : r.key == d.key with
       | false =>
        rw [q1] at HA
        obtain ⟨b14_0, b14_1, b14_2, b14_3⟩ := b14.c4
        have b14_z := b14.free
        have b14_l := b14.lt
        obtain ⟨b4_0, b4_1, b4_2, b4_3⟩ := b4.c4
        have b4_z := b4.free
        have b4_l := b4.lt
        go_wp2_with fail
        refine ⟨⟨a + 1, false, by omega, rfl, rfl, Lib.hid (by rw [HA.out]; rfl), hxq⟩, ?_⟩
        simp only [intOf]
        omega
       | true =>
        cases q2 : r.ver == nv with
        | false =>
         rw [q1, q2] at HA
         obtain ⟨b14_0, b14_1, b14_2, b14_3⟩ := b14.c4
         have b14_z := b14.free
         have b14_l := b14.lt
         obtain ⟨b4_0, b4_1, b4_2, b4_3⟩ := b4.c4
         have b4_z := b4.free
         have b4_l := b4.lt
         go_wp2_with fail
         refine ⟨⟨a + 1, false, by omega, rfl, rfl, Lib.hid (by rw [HA.out]; rfl), hxq⟩, ?_⟩
         simp only [intOf]
         omega
        | true =>
         cases q3 : r.data == d.data with
         | false =>
          rw [q1, q2, q3] at HA
          obtain ⟨b14_0, b14_1, b14_2, b14_3⟩ := b14.c4
          have b14_z := b14.free
          have b14_l := b14.lt
          obtain ⟨b4_0, b4_1, b4_2, b4_3⟩ := b4.c4
          have b4_z := b4.free
          have b4_l := b4.lt
          go_wp2_with fail
          refine ⟨⟨a + 1, false, by omega, rfl, rfl, Lib.hid (by rw [HA.out]; rfl), hxq⟩, ?_⟩
          simp only [intOf]
          omega
         | true =>
          rw [q1, q2, q3] at HA
          obtain ⟨b14_0, b14_1, b14_2, b14_3⟩ := b14.c4
          have b14_z := b14.free
          have b14_l := b14.lt
          obtain ⟨b4_0, b4_1, b4_2, b4_3⟩ := b4.c4
          have b4_z := b4.free
          have b4_l := b4.lt
          go_wp2_with fail
          refine ⟨⟨a + 1, _, by omega, rfl, rfl, Lib.hid (by rw [HA.out]; rfl), hxq⟩, ?_⟩
          simp only [intOf]
          omega
     ·obtain rfl : a = n15 := by omega
      have hq : q = true := by rw [HQ.out, List.take_of_length_le (by rw [← HN15.out]; exact Nat.le_refl _)]; exact HHIT.out
      subst hq
      go_wp2_with fail
      go_ret
      exact ⟨rfl, ext_trans hx hxq⟩
   | true =>
    have HGT := Lib.hid hgt
    clear hgt
    by_cases h1 : x.kind = 1
    ·have q1 : (x.kind == 1) = true := by simpa using h1
     clear h1
     by_cases h3 : x.deed.kind = 3
     case neg =>
      have q3 : (x.deed.kind == 3) = false := by simpa using h3
      have HNO : Hid (¬ ((x.kind = 1 ∨ x.kind = 2) ∧ x.deed.kind = 3 ∧ x.deed.key = (mMade d nv).key ∧ x.deed.n = (mMade d nv).ver)) := Lib.hid (fun h => h3 h.2.1)
      clear h3
      obtain ⟨b11_0, b11_1, b11_2, b11_3, b11_4, b11_5, b11_6⟩ := b11.c7
      have b11_z := b11.free
      have b11_l := b11.lt
      obtain ⟨b4_0, b4_1, b4_2, b4_3⟩ := b4.c4
      have b4_z := b4.free
      have b4_l := b4.lt
      go_upto_region 14 with (fail)
      try clear b14_0 b14_1 b14_2 b14_3 b14_z b14_l b4_0 b4_1 b4_2 b4_3 b4_z b4_l b14_0 b14_1 b14_2 b14_3 b14_z b14_l b4_0 b4_1 b4_2 b4_3 b4_z b4_l b14_0 b14_1 b14_2 b14_3 b14_z b14_l b4_0 b4_1 b4_2 b4_3 b4_z b4_l b14_0 b14_1 b14_2 b14_3 b14_z b14_l b4_0 b4_1 b4_2 b4_3 b4_z b4_l b11_0 b11_1 b11_2 b11_3 b11_4 b11_5 b11_6 b11_z b11_l b4_0 b4_1 b4_2 b4_3 b4_z b4_l
      obtain ⟨b7_0, b7_1, b7_2, b7_3⟩ := b7.c4
      have b7_z := b7.free
      have b7_l := b7.lt
      obtain ⟨b11_0, b11_1, b11_2, b11_3, b11_4, b11_5, b11_6⟩ := b11.c7
      have b11_z := b11.free
      have b11_l := b11.lt
      go_wp2_with fail
      refine (playDo_v s7 HGY.out.1.good ⟨_, rfl, hu1⟩).mono ?_
      rintro e12 w12 ⟨v12, rfl, s12, he⟩
      try clear b7_0 b7_1 b7_2 b7_3 b7_z b7_l b11_0 b11_1 b11_2 b11_3 b11_4 b11_5 b11_6 b11_z b11_l
      have hx := ext_trans hx he
      have hdy := hdy.ext he
      have b4 := b4.ext he
      have b7 := b7.ext he
      have b11 := b11.ext he
      clear he
      have HGY2 := Lib.hid (And.intro (step_tight HGY.out.1 HGT.out).1 (step_keeps HGY.out.1 HGT.out HGY.out.2 HNO.out))
      clear s7 hu1 b11 HGY
      generalize (yDo y x).2.1 = nn2
      generalize (yDo y x).2.2 = qq2
      generalize (yDo y x).1 = y2 at s12 HGY2
      obtain ⟨A12, n12, c12, E12, m12, e12, F12, k12, f12, rfl, _, _, _, _, _, _, _, _⟩ := s12.form
      have kb := b7.kd
      obtain ⟨b7_0, b7_1, b7_2, b7_3⟩ := b7.c4
      have b7_z := b7.free
      have b7_l := b7.lt
      go_upto_region 15 with (fail)
      try clear b7_0 b7_1 b7_2 b7_3 b7_z b7_l
      generalize hwn : World.setCell (World.setCell (World.setCell (World.setCell w12 _ _) _ _) _ _) _ _ = w13
      have b4 : Box w13 gd 25 #[.int .i64 d.kind, .int .i64 d.key, .int .i64 d.n, .slice A0 n0 c0] := by rw [← hwn]; (repeat (with_reducible (first | assumption | refine Box.alloc ?_ _ | refine Box.setOther ?_ (by simp <;> omega) _)))
      have s12 := s12.kept (w' := w13) (by rw [← hwn]; (repeat (with_reducible (first | assumption | exact Kept.refl _ _ _ | (apply Kept.setK; rotate_left; (repeat (first | assumption | apply Kd.set | apply Kd.alloc | apply Kd.drew)); decide; omega) | refine Kept.allocK ?_ _ | refine Kept.drewK ?_))))
      have hdy : ByT w13 w.heap.size (.slice A0 n0 c0) d.data := hdy.kept (T := []) (by rw [← hwn]; (repeat (with_reducible (first | assumption | exact Kept.refl _ _ _ | (apply Kept.setK; rotate_left; (repeat (first | assumption | apply Kd.set | apply Kd.alloc | apply Kd.drew)); decide; omega) | refine Kept.allocK ?_ _ | refine Kept.drewK ?_))))
      have hx : Ext w w13 := by rw [← hwn]; (repeat (with_reducible (first | assumption | exact Below.refl _ _ | refine Below.setCell ?_ (by simp <;> omega) _ | refine Below.alloc ?_ (by simp <;> omega) _ | refine Below.drew ?_ | refine below_drewN ?_ _)))
      have b7 : Box w13 g7 33 #[.slice A12 n12 c12, .slice E12 m12 e12, .slice F12 k12 f12, .int .i64 y2.next] := by rw [← hwn]; exact (((b7.set 0 _).set 1 _).set 2 _).set 3 _
      clear hwn kb
      go_wp2_with fail
      refine ⟨⟨b + 1, by omega, rfl, ⟨_, _, _, _, _, _, _, _, _, _, HGY2, b7, s12⟩, b4, hdy, hx⟩, ?_⟩
      simp only [intOf]
      omega
     have q3 : (x.deed.kind == 3) = true := by simpa using h3
     by_cases h4 : x.deed.key = d.key
     case neg =>
      have q4 : (x.deed.key == d.key) = false := by simpa using h4
      have HNO : Hid (¬ ((x.kind = 1 ∨ x.kind = 2) ∧ x.deed.kind = 3 ∧ x.deed.key = (mMade d nv).key ∧ x.deed.n = (mMade d nv).ver)) := Lib.hid (fun h => h4 h.2.2.1)
      clear h3 h4
      obtain ⟨b11_0, b11_1, b11_2, b11_3, b11_4, b11_5, b11_6⟩ := b11.c7
      have b11_z := b11.free
      have b11_l := b11.lt
      obtain ⟨b4_0, b4_1, b4_2, b4_3⟩ := b4.c4
      have b4_z := b4.free
      have b4_l := b4.lt
      go_upto_region 14 with (fail)
      try clear b11_0 b11_1 b11_2 b11_3 b11_4 b11_5 b11_6 b11_z b11_l b4_0 b4_1 b4_2 b4_3 b4_z b4_l
      obtain ⟨b7_0, b7_1, b7_2, b7_3⟩ := b7.c4
      have b7_z := b7.free
      have b7_l := b7.lt
      obtain ⟨b11_0, b11_1, b11_2, b11_3, b11_4, b11_5, b11_6⟩ := b11.c7
      have b11_z := b11.free
      have b11_l := b11.lt
      go_wp2_with fail
      refine (playDo_v s7 HGY.out.1.good ⟨_, rfl, hu1⟩).mono ?_
      rintro e12 w12 ⟨v12, rfl, s12, he⟩
      try clear b7_0 b7_1 b7_2 b7_3 b7_z b7_l b11_0 b11_1 b11_2 b11_3 b11_4 b11_5 b11_6 b11_z b11_l
      have hx := ext_trans hx he
      have hdy := hdy.ext he
      have b4 := b4.ext he
      have b7 := b7.ext he
      have b11 := b11.ext he
      clear he
      have HGY2 := Lib.hid (And.intro (step_tight HGY.out.1 HGT.out).1 (step_keeps HGY.out.1 HGT.out HGY.out.2 HNO.out))
      clear s7 hu1 b11 HGY
      generalize (yDo y x).2.1 = nn2
      generalize (yDo y x).2.2 = qq2
      generalize (yDo y x).1 = y2 at s12 HGY2
      obtain ⟨A12, n12, c12, E12, m12, e12, F12, k12, f12, rfl, _, _, _, _, _, _, _, _⟩ := s12.form
      have kb := b7.kd
      obtain ⟨b7_0, b7_1, b7_2, b7_3⟩ := b7.c4
      have b7_z := b7.free
      have b7_l := b7.lt
      go_upto_region 15 with (fail)
      try clear b7_0 b7_1 b7_2 b7_3 b7_z b7_l
      generalize hwn : World.setCell (World.setCell (World.setCell (World.setCell w12 _ _) _ _) _ _) _ _ = w13
      have b4 : Box w13 gd 25 #[.int .i64 d.kind, .int .i64 d.key, .int .i64 d.n, .slice A0 n0 c0] := by rw [← hwn]; (repeat (with_reducible (first | assumption | refine Box.alloc ?_ _ | refine Box.setOther ?_ (by simp <;> omega) _)))
      have s12 := s12.kept (w' := w13) (by rw [← hwn]; (repeat (with_reducible (first | assumption | exact Kept.refl _ _ _ | (apply Kept.setK; rotate_left; (repeat (first | assumption | apply Kd.set | apply Kd.alloc | apply Kd.drew)); decide; omega) | refine Kept.allocK ?_ _ | refine Kept.drewK ?_))))
      have hdy : ByT w13 w.heap.size (.slice A0 n0 c0) d.data := hdy.kept (T := []) (by rw [← hwn]; (repeat (with_reducible (first | assumption | exact Kept.refl _ _ _ | (apply Kept.setK; rotate_left; (repeat (first | assumption | apply Kd.set | apply Kd.alloc | apply Kd.drew)); decide; omega) | refine Kept.allocK ?_ _ | refine Kept.drewK ?_))))
      have hx : Ext w w13 := by rw [← hwn]; (repeat (with_reducible (first | assumption | exact Below.refl _ _ | refine Below.setCell ?_ (by simp <;> omega) _ | refine Below.alloc ?_ (by simp <;> omega) _ | refine Below.drew ?_ | refine below_drewN ?_ _)))
      have b7 : Box w13 g7 33 #[.slice A12 n12 c12, .slice E12 m12 e12, .slice F12 k12 f12, .int .i64 y2.next] := by rw [← hwn]; exact (((b7.set 0 _).set 1 _).set 2 _).set 3 _
      clear hwn kb
      go_wp2_with fail
      refine ⟨⟨b + 1, by omega, rfl, ⟨_, _, _, _, _, _, _, _, _, _, HGY2, b7, s12⟩, b4, hdy, hx⟩, ?_⟩
      simp only [intOf]
      omega
     have q4 : (x.deed.key == d.key) = true := by simpa using h4
     by_cases h5 : x.deed.n = nv
     case neg =>
      have q5 : (x.deed.n == nv) = false := by simpa using h5
      have HNO : Hid (¬ ((x.kind = 1 ∨ x.kind = 2) ∧ x.deed.kind = 3 ∧ x.deed.key = (mMade d nv).key ∧ x.deed.n = (mMade d nv).ver)) := Lib.hid (fun h => h5 h.2.2.2)
      clear h3 h4 h5
      obtain ⟨b11_0, b11_1, b11_2, b11_3, b11_4, b11_5, b11_6⟩ := b11.c7
      have b11_z := b11.free
      have b11_l := b11.lt
      obtain ⟨b4_0, b4_1, b4_2, b4_3⟩ := b4.c4
      have b4_z := b4.free
      have b4_l := b4.lt
      go_upto_region 14 with (fail)
      try clear b11_0 b11_1 b11_2 b11_3 b11_4 b11_5 b11_6 b11_z b11_l b4_0 b4_1 b4_2 b4_3 b4_z b4_l
      obtain ⟨b7_0, b7_1, b7_2, b7_3⟩ := b7.c4
      have b7_z := b7.free
      have b7_l := b7.lt
      obtain ⟨b11_0, b11_1, b11_2, b11_3, b11_4, b11_5, b11_6⟩ := b11.c7
      have b11_z := b11.free
      have b11_l := b11.lt
      go_wp2_with fail
      refine (playDo_v s7 HGY.out.1.good ⟨_, rfl, hu1⟩).mono ?_
      rintro e12 w12 ⟨v12, rfl, s12, he⟩
      try clear b7_0 b7_1 b7_2 b7_3 b7_z b7_l b11_0 b11_1 b11_2 b11_3 b11_4 b11_5 b11_6 b11_z b11_l
      have hx := ext_trans hx he
      have hdy := hdy.ext he
      have b4 := b4.ext he
      have b7 := b7.ext he
      have b11 := b11.ext he
      clear he
      have HGY2 := Lib.hid (And.intro (step_tight HGY.out.1 HGT.out).1 (step_keeps HGY.out.1 HGT.out HGY.out.2 HNO.out))
      clear s7 hu1 b11 HGY
      generalize (yDo y x).2.1 = nn2
      generalize (yDo y x).2.2 = qq2
      generalize (yDo y x).1 = y2 at s12 HGY2
      obtain ⟨A12, n12, c12, E12, m12, e12, F12, k12, f12, rfl, _, _, _, _, _, _, _, _⟩ := s12.form
      have kb := b7.kd
      obtain ⟨b7_0, b7_1, b7_2, b7_3⟩ := b7.c4
      have b7_z := b7.free
      have b7_l := b7.lt
      go_upto_region 15 with (fail)
      try clear b7_0 b7_1 b7_2 b7_3 b7_z b7_l
      generalize hwn : World.setCell (World.setCell (World.setCell (World.setCell w12 _ _) _ _) _ _) _ _ = w13
      have b4 : Box w13 gd 25 #[.int .i64 d.kind, .int .i64 d.key, .int .i64 d.n, .slice A0 n0 c0] := by rw [← hwn]; (repeat (with_reducible (first | assumption | refine Box.alloc ?_ _ | refine Box.setOther ?_ (by simp <;> omega) _)))
      have s12 := s12.kept (w' := w13) (by rw [← hwn]; (repeat (with_reducible (first | assumption | exact Kept.refl _ _ _ | (apply Kept.setK; rotate_left; (repeat (first | assumption | apply Kd.set | apply Kd.alloc | apply Kd.drew)); decide; omega) | refine Kept.allocK ?_ _ | refine Kept.drewK ?_))))
      have hdy : ByT w13 w.heap.size (.slice A0 n0 c0) d.data := hdy.kept (T := []) (by rw [← hwn]; (repeat (with_reducible (first | assumption | exact Kept.refl _ _ _ | (apply Kept.setK; rotate_left; (repeat (first | assumption | apply Kd.set | apply Kd.alloc | apply Kd.drew)); decide; omega) | refine Kept.allocK ?_ _ | refine Kept.drewK ?_))))
      have hx : Ext w w13 := by rw [← hwn]; (repeat (with_reducible (first | assumption | exact Below.refl _ _ | refine Below.setCell ?_ (by simp <;> omega) _ | refine Below.alloc ?_ (by simp <;> omega) _ | refine Below.drew ?_ | refine below_drewN ?_ _)))
      have b7 : Box w13 g7 33 #[.slice A12 n12 c12, .slice E12 m12 e12, .slice F12 k12 f12, .int .i64 y2.next] := by rw [← hwn]; exact (((b7.set 0 _).set 1 _).set 2 _).set 3 _
      clear hwn kb
      go_wp2_with fail
      refine ⟨⟨b + 1, by omega, rfl, ⟨_, _, _, _, _, _, _, _, _, _, HGY2, b7, s12⟩, b4, hdy, hx⟩, ?_⟩
      simp only [intOf]
      omega
     have q5 : (x.deed.n == nv) = true := by simpa using h5
     clear h3 h4 h5
     obtain ⟨b11_0, b11_1, b11_2, b11_3, b11_4, b11_5, b11_6⟩ := b11.c7
     have b11_z := b11.free
     have b11_l := b11.lt
     obtain ⟨b4_0, b4_1, b4_2, b4_3⟩ := b4.c4
     have b4_z := b4.free
     have b4_l := b4.lt
     go_upto_region 16 with (fail)
     try clear b11_0 b11_1 b11_2 b11_3 b11_4 b11_5 b11_6 b11_z b11_l b4_0 b4_1 b4_2 b4_3 b4_z b4_l
     clear hu1 b11
     obtain ⟨b7_0, b7_1, b7_2, b7_3⟩ := b7.c4
     have b7_z := b7.free
     have b7_l := b7.lt
     go_wp2_with fail
     refine (refRecs_v s7 HGY.out.1.good.fine.len).mono ?_
     rintro e15 w15 ⟨v15, rfl, o15, he⟩
     try clear b7_0 b7_1 b7_2 b7_3 b7_z b7_l
     have hx := ext_trans hx he
     have hdy := hdy.ext he
     have b4 := b4.ext he
     have b7 := b7.ext he
     clear he
     have HHIT := Lib.hid (hit_made HKD.out HGY.out.2)
     have r15 := o15.row (T := [51]) (by decide) (Nat.le_refl _)
     clear o15 s7 b7 HGY
     generalize sRecs y = rs at r15 HHIT
     obtain ⟨A15, n15, c15, rfl, _, hm15, HN15⟩ := r15.form
     unfold maxLen at hm15
     go_upto_region 18 with (fail)
     go_loopw [12, 89] (fun vq i wq => ∃ (a : Nat) (q : Bool), a ≤ n15 ∧ i = .int .i64 a ∧ vq = .bool q ∧ Hid (q = (rs.take a).any (hitR d nv)) ∧ Ext w15 wq) (fun _ i _ => n15 - (intOf i).toNat)
     case atStart => exact ⟨0, false, by omega, rfl, rfl, Lib.hid rfl, Below.refl _ _⟩
     case round =>
      obtain ⟨a, q, ha, rfl, rfl, HQ, hxq⟩ := hrel
      by_cases hla : a < n15
      ·have i0 : (0 : Int) ≤ (a : Int) := by omega
       have i1 : (a : Int) < (n15 : Int) := by omega
       have HA := Lib.hid (any_take rs (hitR d nv) (i := a) (by rw [← HN15.out]; exact hla))
       obtain ⟨g1, o1, u1, rfl, hg1, hu1, f1⟩ := r15.rec_x hla
       generalize rs.getD a rZero = r at hu1 f1 HA
       rw [← HQ.out] at HA
       obtain ⟨AX, nx, cx, rfl, _, _⟩ := hu1.form
       obtain ⟨x0, x1, x2, x3⟩ := f1 _ hxq
       have hu1 := hu1.ext hxq
       have hdy := hdy.ext hxq
       have b4 := b4.ext hxq
       clear f1 hg1
       go_upto_region 20 with (fail)
       generalize hwn : World.alloc wr _ = w20
       have he : Ext wr w20 := by rw [← hwn]; exact ext_alloc _ _
       have b14 : Box w20 wr.heap.size 51 #[.int .i64 r.kind, .int .i64 r.key, .int .i64 r.ver, .slice AX nx cx] := by rw [← hwn]; exact Box.new _ _ _ (by simp)
       clear hwn x0 x1 x2 x3
       have hxq := ext_trans hxq he
       have hu1 := hu1.ext he
       have hdy := hdy.ext he
       have b4 := b4.ext he
       clear he
       cases q with
       | true =>
        go_wp2_with fail
        refine ⟨⟨a + 1, true, by omega, rfl, rfl, Lib.hid (by rw [HA.out]; rfl), hxq⟩, ?_⟩
        simp only [intOf]
        omega
       | false =>
        have HA := Lib.hid (show (rs.take (a + 1)).any (hitR d nv) = ((r.key == d.key) && ((r.ver == nv) && ((r.data == d.data) && ((r.kind == 2) == (d.kind == 1))))) by rw [HA.out]; rfl)
        obtain ⟨_, _, _, e1, hy1, _⟩ := hu1.form
        cases e1
        obtain ⟨_, _, _, e2, hy2, _⟩ := hdy.form
        cases e2
        have cv1 := run_str hy1
        have cv2 := run_str hy2
        cases q1 : r.key == d.key with
        | false =>
         rw [q1] at HA
         obtain ⟨b14_0, b14_1, b14_2, b14_3⟩ := b14.c4
         have b14_z := b14.free
         have b14_l := b14.lt
         obtain ⟨b4_0, b4_1, b4_2, b4_3⟩ := b4.c4
         have b4_z := b4.free
         have b4_l := b4.lt
         go_wp2_with fail
         refine ⟨⟨a + 1, false, by omega, rfl, rfl, Lib.hid (by rw [HA.out]; rfl), hxq⟩, ?_⟩
         simp only [intOf]
         omega
        | true =>
         cases q2 : r.ver == nv with
         | false =>
          rw [q1, q2] at HA
          obtain ⟨b14_0, b14_1, b14_2, b14_3⟩ := b14.c4
          have b14_z := b14.free
          have b14_l := b14.lt
          obtain ⟨b4_0, b4_1, b4_2, b4_3⟩ := b4.c4
          have b4_z := b4.free
          have b4_l := b4.lt
          go_wp2_with fail
          refine ⟨⟨a + 1, false, by omega, rfl, rfl, Lib.hid (by rw [HA.out]; rfl), hxq⟩, ?_⟩
          simp only [intOf]
          omega
         | true =>
          cases q3 : r.data == d.data with
          | false =>
           rw [q1, q2, q3] at HA
           obtain ⟨b14_0, b14_1, b14_2, b14_3⟩ := b14.c4
           have b14_z := b14.free
           have b14_l := b14.lt
           obtain ⟨b4_0, b4_1, b4_2, b4_3⟩ := b4.c4
           have b4_z := b4.free
           have b4_l := b4.lt
           go_wp2_with fail
           refine ⟨⟨a + 1, false, by omega, rfl, rfl, Lib.hid (by rw [HA.out]; rfl), hxq⟩, ?_⟩
           simp only [intOf]
           omega
          | true =>
           rw [q1, q2, q3] at HA
           obtain ⟨b14_0, b14_1, b14_2, b14_3⟩ := b14.c4
           have b14_z := b14.free
           have b14_l := b14.lt
           obtain ⟨b4_0, b4_1, b4_2, b4_3⟩ := b4.c4
           have b4_z := b4.free
           have b4_l := b4.lt
           go_wp2_with fail
           refine ⟨⟨a + 1, _, by omega, rfl, rfl, Lib.hid (by rw [HA.out]; rfl), hxq⟩, ?_⟩
           simp only [intOf]
           omega
      ·obtain rfl : a = n15 := by omega
       have hq : q = true := by rw [HQ.out, List.take_of_length_le (by rw [← HN15.out]; exact Nat.le_refl _)]; exact HHIT.out
       subst hq
       go_wp2_with fail
       go_ret
       exact ⟨rfl, ext_trans hx hxq⟩
    ·have q1 : (x.kind == 1) = false := by simpa using h1
     by_cases h2 : x.kind = 2
     ·have q2 : (x.kind == 2) = true := by simpa using h2
      clear h1 h2
      by_cases h3 : x.deed.kind = 3
      case neg =>
       have q3 : (x.deed.kind == 3) = false := by simpa using h3
       have HNO : Hid (¬ ((x.kind = 1 ∨ x.kind = 2) ∧ x.deed.kind = 3 ∧ x.deed.key = (mMade d nv).key ∧ x.deed.n = (mMade d nv).ver)) := Lib.hid (fun h => h3 h.2.1)
       clear h3
       obtain ⟨b11_0, b11_1, b11_2, b11_3, b11_4, b11_5, b11_6⟩ := b11.c7
       have b11_z := b11.free
       have b11_l := b11.lt
       obtain ⟨b4_0, b4_1, b4_2, b4_3⟩ := b4.c4
       have b4_z := b4.free
       have b4_l := b4.lt
       go_upto_region 14 with (fail)
       try clear b14_0 b14_1 b14_2 b14_3 b14_z b14_l b4_0 b4_1 b4_2 b4_3 b4_z b4_l b14_0 b14_1 b14_2 b14_3 b14_z b14_l b4_0 b4_1 b4_2 b4_3 b4_z b4_l b14_0 b14_1 b14_2 b14_3 b14_z b14_l b4_0 b4_1 b4_2 b4_3 b4_z b4_l b14_0 b14_1 b14_2 b14_3 b14_z b14_l b4_0 b4_1 b4_2 b4_3 b4_z b4_l b11_0 b11_1 b11_2 b11_3 b11_4 b11_5 b11_6 b11_z b11_l b4_0 b4_1 b4_2 b4_3 b4_z b4_l
       obtain ⟨b7_0, b7_1, b7_2, b7_3⟩ := b7.c4
       have b7_z := b7.free
       have b7_l := b7.lt
       obtain ⟨b11_0, b11_1, b11_2, b11_3, b11_4, b11_5, b11_6⟩ := b11.c7
       have b11_z := b11.free
       have b11_l := b11.lt
       go_wp2_with fail
       refine (playDo_v s7 HGY.out.1.good ⟨_, rfl, hu1⟩).mono ?_
       rintro e12 w12 ⟨v12, rfl, s12, he⟩
       try clear b7_0 b7_1 b7_2 b7_3 b7_z b7_l b11_0 b11_1 b11_2 b11_3 b11_4 b11_5 b11_6 b11_z b11_l
       have hx := ext_trans hx he
       have hdy := hdy.ext he
       have b4 := b4.ext he
       have b7 := b7.ext he
       have b11 := b11.ext he
       clear he
       have HGY2 := Lib.hid (And.intro (step_tight HGY.out.1 HGT.out).1 (step_keeps HGY.out.1 HGT.out HGY.out.2 HNO.out))
       clear s7 hu1 b11 HGY
       generalize (yDo y x).2.1 = nn2
       generalize (yDo y x).2.2 = qq2
       generalize (yDo y x).1 = y2 at s12 HGY2
       obtain ⟨A12, n12, c12, E12, m12, e12, F12, k12, f12, rfl, _, _, _, _, _, _, _, _⟩ := s12.form
       have kb := b7.kd
       obtain ⟨b7_0, b7_1, b7_2, b7_3⟩ := b7.c4
       have b7_z := b7.free
       have b7_l := b7.lt
       go_upto_region 15 with (fail)
       try clear b7_0 b7_1 b7_2 b7_3 b7_z b7_l
       generalize hwn : World.setCell (World.setCell (World.setCell (World.setCell w12 _ _) _ _) _ _) _ _ = w13
       have b4 : Box w13 gd 25 #[.int .i64 d.kind, .int .i64 d.key, .int .i64 d.n, .slice A0 n0 c0] := by rw [← hwn]; (repeat (with_reducible (first | assumption | refine Box.alloc ?_ _ | refine Box.setOther ?_ (by simp <;> omega) _)))
       have s12 := s12.kept (w' := w13) (by rw [← hwn]; (repeat (with_reducible (first | assumption | exact Kept.refl _ _ _ | (apply Kept.setK; rotate_left; (repeat (first | assumption | apply Kd.set | apply Kd.alloc | apply Kd.drew)); decide; omega) | refine Kept.allocK ?_ _ | refine Kept.drewK ?_))))
       have hdy : ByT w13 w.heap.size (.slice A0 n0 c0) d.data := hdy.kept (T := []) (by rw [← hwn]; (repeat (with_reducible (first | assumption | exact Kept.refl _ _ _ | (apply Kept.setK; rotate_left; (repeat (first | assumption | apply Kd.set | apply Kd.alloc | apply Kd.drew)); decide; omega) | refine Kept.allocK ?_ _ | refine Kept.drewK ?_))))
       have hx : Ext w w13 := by rw [← hwn]; (repeat (with_reducible (first | assumption | exact Below.refl _ _ | refine Below.setCell ?_ (by simp <;> omega) _ | refine Below.alloc ?_ (by simp <;> omega) _ | refine Below.drew ?_ | refine below_drewN ?_ _)))
       have b7 : Box w13 g7 33 #[.slice A12 n12 c12, .slice E12 m12 e12, .slice F12 k12 f12, .int .i64 y2.next] := by rw [← hwn]; exact (((b7.set 0 _).set 1 _).set 2 _).set 3 _
       clear hwn kb
       go_wp2_with fail
       refine ⟨⟨b + 1, by omega, rfl, ⟨_, _, _, _, _, _, _, _, _, _, HGY2, b7, s12⟩, b4, hdy, hx⟩, ?_⟩
       simp only [intOf]
       omega
      have q3 : (x.deed.kind == 3) = true := by simpa using h3
      by_cases h4 : x.deed.key = d.key
      case neg =>
       have q4 : (x.deed.key == d.key) = false := by simpa using h4
       have HNO : Hid (¬ ((x.kind = 1 ∨ x.kind = 2) ∧ x.deed.kind = 3 ∧ x.deed.key = (mMade d nv).key ∧ x.deed.n = (mMade d nv).ver)) := Lib.hid (fun h => h4 h.2.2.1)
       clear h3 h4
       obtain ⟨b11_0, b11_1, b11_2, b11_3, b11_4, b11_5, b11_6⟩ := b11.c7
       have b11_z := b11.free
       have b11_l := b11.lt
       obtain ⟨b4_0, b4_1, b4_2, b4_3⟩ := b4.c4
       have b4_z := b4.free
       have b4_l := b4.lt
       go_upto_region 14 with (fail)
       try clear b11_0 b11_1 b11_2 b11_3 b11_4 b11_5 b11_6 b11_z b11_l b4_0 b4_1 b4_2 b4_3 b4_z b4_l
       obtain ⟨b7_0, b7_1, b7_2, b7_3⟩ := b7.c4
       have b7_z := b7.free
       have b7_l := b7.lt
       obtain ⟨b11_0, b11_1, b11_2, b11_3, b11_4, b11_5, b11_6⟩ := b11.c7
       have b11_z := b11.free
       have b11_l := b11.lt
       go_wp2_with fail
       refine (playDo_v s7 HGY.out.1.good ⟨_, rfl, hu1⟩).mono ?_
       rintro e12 w12 ⟨v12, rfl, s12, he⟩
       try clear b7_0 b7_1 b7_2 b7_3 b7_z b7_l b11_0 b11_1 b11_2 b11_3 b11_4 b11_5 b11_6 b11_z b11_l
       have hx := ext_trans hx he
       have hdy := hdy.ext he
       have b4 := b4.ext he
       have b7 := b7.ext he
       have b11 := b11.ext he
       clear he
       have HGY2 := Lib.hid (And.intro (step_tight HGY.out.1 HGT.out).1 (step_keeps HGY.out.1 HGT.out HGY.out.2 HNO.out))
       clear s7 hu1 b11 HGY
       generalize (yDo y x).2.1 = nn2
       generalize (yDo y x).2.2 = qq2
       generalize (yDo y x).1 = y2 at s12 HGY2
       obtain ⟨A12, n12, c12, E12, m12, e12, F12, k12, f12, rfl, _, _, _, _, _, _, _, _⟩ := s12.form
       have kb := b7.kd
       obtain ⟨b7_0, b7_1, b7_2, b7_3⟩ := b7.c4
       have b7_z := b7.free
       have b7_l := b7.lt
       go_upto_region 15 with (fail)
       try clear b7_0 b7_1 b7_2 b7_3 b7_z b7_l
       generalize hwn : World.setCell (World.setCell (World.setCell (World.setCell w12 _ _) _ _) _ _) _ _ = w13
       have b4 : Box w13 gd 25 #[.int .i64 d.kind, .int .i64 d.key, .int .i64 d.n, .slice A0 n0 c0] := by rw [← hwn]; (repeat (with_reducible (first | assumption | refine Box.alloc ?_ _ | refine Box.setOther ?_ (by simp <;> omega) _)))
       have s12 := s12.kept (w' := w13) (by rw [← hwn]; (repeat (with_reducible (first | assumption | exact Kept.refl _ _ _ | (apply Kept.setK; rotate_left; (repeat (first | assumption | apply Kd.set | apply Kd.alloc | apply Kd.drew)); decide; omega) | refine Kept.allocK ?_ _ | refine Kept.drewK ?_))))
       have hdy : ByT w13 w.heap.size (.slice A0 n0 c0) d.data := hdy.kept (T := []) (by rw [← hwn]; (repeat (with_reducible (first | assumption | exact Kept.refl _ _ _ | (apply Kept.setK; rotate_left; (repeat (first | assumption | apply Kd.set | apply Kd.alloc | apply Kd.drew)); decide; omega) | refine Kept.allocK ?_ _ | refine Kept.drewK ?_))))
       have hx : Ext w w13 := by rw [← hwn]; (repeat (with_reducible (first | assumption | exact Below.refl _ _ | refine Below.setCell ?_ (by simp <;> omega) _ | refine Below.alloc ?_ (by simp <;> omega) _ | refine Below.drew ?_ | refine below_drewN ?_ _)))
       have b7 : Box w13 g7 33 #[.slice A12 n12 c12, .slice E12 m12 e12, .slice F12 k12 f12, .int .i64 y2.next] := by rw [← hwn]; exact (((b7.set 0 _).set 1 _).set 2 _).set 3 _
       clear hwn kb
       go_wp2_with fail
       refine ⟨⟨b + 1, by omega, rfl, ⟨_, _, _, _, _, _, _, _, _, _, HGY2, b7, s12⟩, b4, hdy, hx⟩, ?_⟩
       simp only [intOf]
       omega
      have q4 : (x.deed.key == d.key) = true := by simpa using h4
      by_cases h5 : x.deed.n = nv
      case neg =>
       have q5 : (x.deed.n == nv) = false := by simpa using h5
       have HNO : Hid (¬ ((x.kind = 1 ∨ x.kind = 2) ∧ x.deed.kind = 3 ∧ x.deed.key = (mMade d nv).key ∧ x.deed.n = (mMade d nv).ver)) := Lib.hid (fun h => h5 h.2.2.2)
       clear h3 h4 h5
       obtain ⟨b11_0, b11_1, b11_2, b11_3, b11_4, b11_5, b11_6⟩ := b11.c7
       have b11_z := b11.free
       have b11_l := b11.lt
       obtain ⟨b4_0, b4_1, b4_2, b4_3⟩ := b4.c4
       have b4_z := b4.free
       have b4_l := b4.lt
       go_upto_region 14 with (fail)
       try clear b11_0 b11_1 b11_2 b11_3 b11_4 b11_5 b11_6 b11_z b11_l b4_0 b4_1 b4_2 b4_3 b4_z b4_l
       obtain ⟨b7_0, b7_1, b7_2, b7_3⟩ := b7.c4
       have b7_z := b7.free
       have b7_l := b7.lt
       obtain ⟨b11_0, b11_1, b11_2, b11_3, b11_4, b11_5, b11_6⟩ := b11.c7
       have b11_z := b11.free
       have b11_l := b11.lt
       go_wp2_with fail
       refine (playDo_v s7 HGY.out.1.good ⟨_, rfl, hu1⟩).mono ?_
       rintro e12 w12 ⟨v12, rfl, s12, he⟩
       try clear b7_0 b7_1 b7_2 b7_3 b7_z b7_l b11_0 b11_1 b11_2 b11_3 b11_4 b11_5 b11_6 b11_z b11_l
       have hx := ext_trans hx he
       have hdy := hdy.ext he
       have b4 := b4.ext he
       have b7 := b7.ext he
       have b11 := b11.ext he
       clear he
       have HGY2 := Lib.hid (And.intro (step_tight HGY.out.1 HGT.out).1 (step_keeps HGY.out.1 HGT.out HGY.out.2 HNO.out))
       clear s7 hu1 b11 HGY
       generalize (yDo y x).2.1 = nn2
       generalize (yDo y x).2.2 = qq2
       generalize (yDo y x).1 = y2 at s12 HGY2
       obtain ⟨A12, n12, c12, E12, m12, e12, F12, k12, f12, rfl, _, _, _, _, _, _, _, _⟩ := s12.form
       have kb := b7.kd
       obtain ⟨b7_0, b7_1, b7_2, b7_3⟩ := b7.c4
       have b7_z := b7.free
       have b7_l := b7.lt
       go_upto_region 15 with (fail)
       try clear b7_0 b7_1 b7_2 b7_3 b7_z b7_l
       generalize hwn : World.setCell (World.setCell (World.setCell (World.setCell w12 _ _) _ _) _ _) _ _ = w13
       have b4 : Box w13 gd 25 #[.int .i64 d.kind, .int .i64 d.key, .int .i64 d.n, .slice A0 n0 c0] := by rw [← hwn]; (repeat (with_reducible (first | assumption | refine Box.alloc ?_ _ | refine Box.setOther ?_ (by simp <;> omega) _)))
       have s12 := s12.kept (w' := w13) (by rw [← hwn]; (repeat (with_reducible (first | assumption | exact Kept.refl _ _ _ | (apply Kept.setK; rotate_left; (repeat (first | assumption | apply Kd.set | apply Kd.alloc | apply Kd.drew)); decide; omega) | refine Kept.allocK ?_ _ | refine Kept.drewK ?_))))
       have hdy : ByT w13 w.heap.size (.slice A0 n0 c0) d.data := hdy.kept (T := []) (by rw [← hwn]; (repeat (with_reducible (first | assumption | exact Kept.refl _ _ _ | (apply Kept.setK; rotate_left; (repeat (first | assumption | apply Kd.set | apply Kd.alloc | apply Kd.drew)); decide; omega) | refine Kept.allocK ?_ _ | refine Kept.drewK ?_))))
       have hx : Ext w w13 := by rw [← hwn]; (repeat (with_reducible (first | assumption | exact Below.refl _ _ | refine Below.setCell ?_ (by simp <;> omega) _ | refine Below.alloc ?_ (by simp <;> omega) _ | refine Below.drew ?_ | refine below_drewN ?_ _)))
       have b7 : Box w13 g7 33 #[.slice A12 n12 c12, .slice E12 m12 e12, .slice F12 k12 f12, .int .i64 y2.next] := by rw [← hwn]; exact (((b7.set 0 _).set 1 _).set 2 _).set 3 _
       clear hwn kb
       go_wp2_with fail
       refine ⟨⟨b + 1, by omega, rfl, ⟨_, _, _, _, _, _, _, _, _, _, HGY2, b7, s12⟩, b4, hdy, hx⟩, ?_⟩
       simp only [intOf]
       omega
      have q5 : (x.deed.n == nv) = true := by simpa using h5
      clear h3 h4 h5
      obtain ⟨b11_0, b11_1, b11_2, b11_3, b11_4, b11_5, b11_6⟩ := b11.c7
      have b11_z := b11.free
      have b11_l := b11.lt
      obtain ⟨b4_0, b4_1, b4_2, b4_3⟩ := b4.c4
      have b4_z := b4.free
      have b4_l := b4.lt
      go_upto_region 16 with (fail)
      try clear b11_0 b11_1 b11_2 b11_3 b11_4 b11_5 b11_6 b11_z b11_l b4_0 b4_1 b4_2 b4_3 b4_z b4_l
      clear hu1 b11
      obtain ⟨b7_0, b7_1, b7_2, b7_3⟩ := b7.c4
      have b7_z := b7.free
      have b7_l := b7.lt
      go_wp2_with fail
      refine (refRecs_v s7 HGY.out.1.good.fine.len).mono ?_
      rintro e15 w15 ⟨v15, rfl, o15, he⟩
      try clear b7_0 b7_1 b7_2 b7_3 b7_z b7_l
      have hx := ext_trans hx he
      have hdy := hdy.ext he
      have b4 := b4.ext he
      have b7 := b7.ext he
      clear he
      have HHIT := Lib.hid (hit_made HKD.out HGY.out.2)
      have r15 := o15.row (T := [51]) (by decide) (Nat.le_refl _)
      clear o15 s7 b7 HGY
      generalize sRecs y = rs at r15 HHIT
      obtain ⟨A15, n15, c15, rfl, _, hm15, HN15⟩ := r15.form
      unfold maxLen at hm15
      go_upto_region 18 with (fail)
      go_loopw [12, 89] (fun vq i wq => ∃ (a : Nat) (q : Bool), a ≤ n15 ∧ i = .int .i64 a ∧ vq = .bool q ∧ Hid (q = (rs.take a).any (hitR d nv)) ∧ Ext w15 wq) (fun _ i _ => n15 - (intOf i).toNat)
      case atStart => exact ⟨0, false, by omega, rfl, rfl, Lib.hid rfl, Below.refl _ _⟩
      case round =>
       obtain ⟨a, q, ha, rfl, rfl, HQ, hxq⟩ := hrel
       by_cases hla : a < n15
       ·have i0 : (0 : Int) ≤ (a : Int) := by omega
        have i1 : (a : Int) < (n15 : Int) := by omega
        have HA := Lib.hid (any_take rs (hitR d nv) (i := a) (by rw [← HN15.out]; exact hla))
        obtain ⟨g1, o1, u1, rfl, hg1, hu1, f1⟩ := r15.rec_x hla
        generalize rs.getD a rZero = r at hu1 f1 HA
        rw [← HQ.out] at HA
        obtain ⟨AX, nx, cx, rfl, _, _⟩ := hu1.form
        obtain ⟨x0, x1, x2, x3⟩ := f1 _ hxq
        have hu1 := hu1.ext hxq
        have hdy := hdy.ext hxq
        have b4 := b4.ext hxq
        clear f1 hg1
        go_upto_region 20 with (fail)
        generalize hwn : World.alloc wr _ = w20
        have he : Ext wr w20 := by rw [← hwn]; exact ext_alloc _ _
        have b14 : Box w20 wr.heap.size 51 #[.int .i64 r.kind, .int .i64 r.key, .int .i64 r.ver, .slice AX nx cx] := by rw [← hwn]; exact Box.new _ _ _ (by simp)
        clear hwn x0 x1 x2 x3
        have hxq := ext_trans hxq he
        have hu1 := hu1.ext he
        have hdy := hdy.ext he
        have b4 := b4.ext he
        clear he
        cases q with
        | true =>
         go_wp2_with fail
         refine ⟨⟨a + 1, true, by omega, rfl, rfl, Lib.hid (by rw [HA.out]; rfl), hxq⟩, ?_⟩
         simp only [intOf]
         omega
        | false =>
         have HA := Lib.hid (show (rs.take (a + 1)).any (hitR d nv) = ((r.key == d.key) && ((r.ver == nv) && ((r.data == d.data) && ((r.kind == 2) == (d.kind == 1))))) by rw [HA.out]; rfl)
         obtain ⟨_, _, _, e1, hy1, _⟩ := hu1.form
         cases e1
         obtain ⟨_, _, _, e2, hy2, _⟩ := hdy.form
         cases e2
         have cv1 := run_str hy1
         have cv2 := run_str hy2
         cases q1 : r.key == d.key with
         | false =>
          rw [q1] at HA
          obtain ⟨b14_0, b14_1, b14_2, b14_3⟩ := b14.c4
          have b14_z := b14.free
          have b14_l := b14.lt
          obtain ⟨b4_0, b4_1, b4_2, b4_3⟩ := b4.c4
          have b4_z := b4.free
          have b4_l := b4.lt
          go_wp2_with fail
          refine ⟨⟨a + 1, false, by omega, rfl, rfl, Lib.hid (by rw [HA.out]; rfl), hxq⟩, ?_⟩
          simp only [intOf]
          omega
         | true =>
          cases q2 : r.ver == nv with
          | false =>
           rw [q1, q2] at HA
           obtain ⟨b14_0, b14_1, b14_2, b14_3⟩ := b14.c4
           have b14_z := b14.free
           have b14_l := b14.lt
           obtain ⟨b4_0, b4_1, b4_2, b4_3⟩ := b4.c4
           have b4_z := b4.free
           have b4_l := b4.lt
           go_wp2_with fail
           refine ⟨⟨a + 1, false, by omega, rfl, rfl, Lib.hid (by rw [HA.out]; rfl), hxq⟩, ?_⟩
           simp only [intOf]
           omega
          | true =>
           cases q3 : r.data == d.data with
           | false =>
            rw [q1, q2, q3] at HA
            obtain ⟨b14_0, b14_1, b14_2, b14_3⟩ := b14.c4
            have b14_z := b14.free
            have b14_l := b14.lt
            obtain ⟨b4_0, b4_1, b4_2, b4_3⟩ := b4.c4
            have b4_z := b4.free
            have b4_l := b4.lt
            go_wp2_with fail
            refine ⟨⟨a + 1, false, by omega, rfl, rfl, Lib.hid (by rw [HA.out]; rfl), hxq⟩, ?_⟩
            simp only [intOf]
            omega
           | true =>
            rw [q1, q2, q3] at HA
            obtain ⟨b14_0, b14_1, b14_2, b14_3⟩ := b14.c4
            have b14_z := b14.free
            have b14_l := b14.lt
            obtain ⟨b4_0, b4_1, b4_2, b4_3⟩ := b4.c4
            have b4_z := b4.free
            have b4_l := b4.lt
            go_wp2_with fail
            refine ⟨⟨a + 1, _, by omega, rfl, rfl, Lib.hid (by rw [HA.out]; rfl), hxq⟩, ?_⟩
            simp only [intOf]
            omega
       ·obtain rfl : a = n15 := by omega
        have hq : q = true := by rw [HQ.out, List.take_of_length_le (by rw [← HN15.out]; exact Nat.le_refl _)]; exact HHIT.out
        subst hq
        go_wp2_with fail
        go_ret
        exact ⟨rfl, ext_trans hx hxq⟩
     ·have q2 : (x.kind == 2) = false := by simpa using h2
      have HNO : Hid (¬ ((x.kind = 1 ∨ x.kind = 2) ∧ x.deed.kind = 3 ∧ x.deed.key = (mMade d nv).key ∧ x.deed.n = (mMade d nv).ver)) := Lib.hid (fun h => h.1.elim h1 h2)
      clear h1 h2
      obtain ⟨b11_0, b11_1, b11_2, b11_3, b11_4, b11_5, b11_6⟩ := b11.c7
      have b11_z := b11.free
      have b11_l := b11.lt
      obtain ⟨b4_0, b4_1, b4_2, b4_3⟩ := b4.c4
      have b4_z := b4.free
      have b4_l := b4.lt
      go_upto_region 14 with (fail)
      try clear b14_0 b14_1 b14_2 b14_3 b14_z b14_l b4_0 b4_1 b4_2 b4_3 b4_z b4_l b14_0 b14_1 b14_2 b14_3 b14_z b14_l b4_0 b4_1 b4_2 b4_3 b4_z b4_l b14_0 b14_1 b14_2 b14_3 b14_z b14_l b4_0 b4_1 b4_2 b4_3 b4_z b4_l b14_0 b14_1 b14_2 b14_3 b14_z b14_l b4_0 b4_1 b4_2 b4_3 b4_z b4_l b11_0 b11_1 b11_2 b11_3 b11_4 b11_5 b11_6 b11_z b11_l b4_0 b4_1 b4_2 b4_3 b4_z b4_l
      obtain ⟨b7_0, b7_1, b7_2, b7_3⟩ := b7.c4
      have b7_z := b7.free
      have b7_l := b7.lt
      obtain ⟨b11_0, b11_1, b11_2, b11_3, b11_4, b11_5, b11_6⟩ := b11.c7
      have b11_z := b11.free
      have b11_l := b11.lt
      go_wp2_with fail
      refine (playDo_v s7 HGY.out.1.good ⟨_, rfl, hu1⟩).mono ?_
      rintro e12 w12 ⟨v12, rfl, s12, he⟩
      try clear b7_0 b7_1 b7_2 b7_3 b7_z b7_l b11_0 b11_1 b11_2 b11_3 b11_4 b11_5 b11_6 b11_z b11_l
      have hx := ext_trans hx he
      have hdy := hdy.ext he
      have b4 := b4.ext he
      have b7 := b7.ext he
      have b11 := b11.ext he
      clear he
      have HGY2 := Lib.hid (And.intro (step_tight HGY.out.1 HGT.out).1 (step_keeps HGY.out.1 HGT.out HGY.out.2 HNO.out))
      clear s7 hu1 b11 HGY
      generalize (yDo y x).2.1 = nn2
      generalize (yDo y x).2.2 = qq2
      generalize (yDo y x).1 = y2 at s12 HGY2
      obtain ⟨A12, n12, c12, E12, m12, e12, F12, k12, f12, rfl, _, _, _, _, _, _, _, _⟩ := s12.form
      have kb := b7.kd
      obtain ⟨b7_0, b7_1, b7_2, b7_3⟩ := b7.c4
      have b7_z := b7.free
      have b7_l := b7.lt
      go_upto_region 15 with (fail)
      try clear b7_0 b7_1 b7_2 b7_3 b7_z b7_l
      generalize hwn : World.setCell (World.setCell (World.setCell (World.setCell w12 _ _) _ _) _ _) _ _ = w13
      have b4 : Box w13 gd 25 #[.int .i64 d.kind, .int .i64 d.key, .int .i64 d.n, .slice A0 n0 c0] := by rw [← hwn]; (repeat (with_reducible (first | assumption | refine Box.alloc ?_ _ | refine Box.setOther ?_ (by simp <;> omega) _)))
      have s12 := s12.kept (w' := w13) (by rw [← hwn]; (repeat (with_reducible (first | assumption | exact Kept.refl _ _ _ | (apply Kept.setK; rotate_left; (repeat (first | assumption | apply Kd.set | apply Kd.alloc | apply Kd.drew)); decide; omega) | refine Kept.allocK ?_ _ | refine Kept.drewK ?_))))
      have hdy : ByT w13 w.heap.size (.slice A0 n0 c0) d.data := hdy.kept (T := []) (by rw [← hwn]; (repeat (with_reducible (first | assumption | exact Kept.refl _ _ _ | (apply Kept.setK; rotate_left; (repeat (first | assumption | apply Kd.set | apply Kd.alloc | apply Kd.drew)); decide; omega) | refine Kept.allocK ?_ _ | refine Kept.drewK ?_))))
      have hx : Ext w w13 := by rw [← hwn]; (repeat (with_reducible (first | assumption | exact Below.refl _ _ | refine Below.setCell ?_ (by simp <;> omega) _ | refine Below.alloc ?_ (by simp <;> omega) _ | refine Below.drew ?_ | refine below_drewN ?_ _)))
      have b7 : Box w13 g7 33 #[.slice A12 n12 c12, .slice E12 m12 e12, .slice F12 k12 f12, .int .i64 y2.next] := by rw [← hwn]; exact (((b7.set 0 _).set 1 _).set 2 _).set 3 _
      clear hwn kb
      go_wp2_with fail
      refine ⟨⟨b + 1, by omega, rfl, ⟨_, _, _, _, _, _, _, _, _, _, HGY2, b7, s12⟩, b4, hdy, hx⟩, ?_⟩
      simp only [intOf]
      omega
  ·obtain rfl : b = n2 := by omega
   go_upto_region 16 with (fail)
   obtain ⟨b7_0, b7_1, b7_2, b7_3⟩ := b7.c4
   have b7_z := b7.free
   have b7_l := b7.lt
   go_wp2_with fail
   refine (refRecs_v s7 HGY.out.1.good.fine.len).mono ?_
   rintro e15 w15 ⟨v15, rfl, o15, he⟩
   try clear b7_0 b7_1 b7_2 b7_3 b7_z b7_l
   have hx := ext_trans hx he
   have hdy := hdy.ext he
   have b4 := b4.ext he
   have b7 := b7.ext he
   clear he
   have HHIT := Lib.hid (hit_made HKD.out HGY.out.2)
   have r15 := o15.row (T := [51]) (by decide) (Nat.le_refl _)
   clear o15 s7 b7 HGY
   generalize sRecs y = rs at r15 HHIT
   obtain ⟨A15, n15, c15, rfl, _, hm15, HN15⟩ := r15.form
   unfold maxLen at hm15
   go_upto_region 18 with (fail)
   go_loopw [12, 89] (fun vq i wq => ∃ (a : Nat) (q : Bool), a ≤ n15 ∧ i = .int .i64 a ∧ vq = .bool q ∧ Hid (q = (rs.take a).any (hitR d nv)) ∧ Ext w15 wq) (fun _ i _ => n15 - (intOf i).toNat)
   case atStart => exact ⟨0, false, by omega, rfl, rfl, Lib.hid rfl, Below.refl _ _⟩
   case round =>
    obtain ⟨a, q, ha, rfl, rfl, HQ, hxq⟩ := hrel
    by_cases hla : a < n15
    ·have i0 : (0 : Int) ≤ (a : Int) := by omega
     have i1 : (a : Int) < (n15 : Int) := by omega
     have HA := Lib.hid (any_take rs (hitR d nv) (i := a) (by rw [← HN15.out]; exact hla))
     obtain ⟨g1, o1, u1, rfl, hg1, hu1, f1⟩ := r15.rec_x hla
     generalize rs.getD a rZero = r at hu1 f1 HA
     rw [← HQ.out] at HA
     obtain ⟨AX, nx, cx, rfl, _, _⟩ := hu1.form
     obtain ⟨x0, x1, x2, x3⟩ := f1 _ hxq
     have hu1 := hu1.ext hxq
     have hdy := hdy.ext hxq
     have b4 := b4.ext hxq
     clear f1 hg1
     go_upto_region 20 with (fail)
     generalize hwn : World.alloc wr _ = w20
     have he : Ext wr w20 := by rw [← hwn]; exact ext_alloc _ _
     have b14 : Box w20 wr.heap.size 51 #[.int .i64 r.kind, .int .i64 r.key, .int .i64 r.ver, .slice AX nx cx] := by rw [← hwn]; exact Box.new _ _ _ (by simp)
     clear hwn x0 x1 x2 x3
     have hxq := ext_trans hxq he
     have hu1 := hu1.ext he
     have hdy := hdy.ext he
     have b4 := b4.ext he
     clear he
     cases q with
     | true =>
      go_wp2_with fail
      refine ⟨⟨a + 1, true, by omega, rfl, rfl, Lib.hid (by rw [HA.out]; rfl), hxq⟩, ?_⟩
      simp only [intOf]
      omega
     | false =>
      have HA := Lib.hid (show (rs.take (a + 1)).any (hitR d nv) = ((r.key == d.key) && ((r.ver == nv) && ((r.data == d.data) && ((r.kind == 2) == (d.kind == 1))))) by rw [HA.out]; rfl)
      obtain ⟨_, _, _, e1, hy1, _⟩ := hu1.form
      cases e1
      obtain ⟨_, _, _, e2, hy2, _⟩ := hdy.form
      cases e2
      have cv1 := run_str hy1
      have cv2 := run_str hy2
      cases q1 : r.key == d.key with
      | false =>
       rw [q1] at HA
       obtain ⟨b14_0, b14_1, b14_2, b14_3⟩ := b14.c4
       have b14_z := b14.free
       have b14_l := b14.lt
       obtain ⟨b4_0, b4_1, b4_2, b4_3⟩ := b4.c4
       have b4_z := b4.free
       have b4_l := b4.lt
       go_wp2_with fail
       refine ⟨⟨a + 1, false, by omega, rfl, rfl, Lib.hid (by rw [HA.out]; rfl), hxq⟩, ?_⟩
       simp only [intOf]
       omega
      | true =>
       cases q2 : r.ver == nv with
       | false =>
        rw [q1, q2] at HA
        obtain ⟨b14_0, b14_1, b14_2, b14_3⟩ := b14.c4
        have b14_z := b14.free
        have b14_l := b14.lt
        obtain ⟨b4_0, b4_1, b4_2, b4_3⟩ := b4.c4
        have b4_z := b4.free
        have b4_l := b4.lt
        go_wp2_with fail
        refine ⟨⟨a + 1, false, by omega, rfl, rfl, Lib.hid (by rw [HA.out]; rfl), hxq⟩, ?_⟩
        simp only [intOf]
        omega
       | true =>
        cases q3 : r.data == d.data with
        | false =>
         rw [q1, q2, q3] at HA
         obtain ⟨b14_0, b14_1, b14_2, b14_3⟩ := b14.c4
         have b14_z := b14.free
         have b14_l := b14.lt
         obtain ⟨b4_0, b4_1, b4_2, b4_3⟩ := b4.c4
         have b4_z := b4.free
         have b4_l := b4.lt
         go_wp2_with fail
         refine ⟨⟨a + 1, false, by omega, rfl, rfl, Lib.hid (by rw [HA.out]; rfl), hxq⟩, ?_⟩
         simp only [intOf]
         omega
        | true =>
         rw [q1, q2, q3] at HA
         obtain ⟨b14_0, b14_1, b14_2, b14_3⟩ := b14.c4
         have b14_z := b14.free
         have b14_l := b14.lt
         obtain ⟨b4_0, b4_1, b4_2, b4_3⟩ := b4.c4
         have b4_z := b4.free
         have b4_l := b4.lt
         go_wp2_with fail
         refine ⟨⟨a + 1, _, by omega, rfl, rfl, Lib.hid (by rw [HA.out]; rfl), hxq⟩, ?_⟩
         simp only [intOf]
         omega
    ·obtain rfl : a = n15 := by omega
     have hq : q = true := by rw [HQ.out, List.take_of_length_le (by rw [← HN15.out]; exact Nat.le_refl _)]; exact HHIT.out
     subst hq
     go_wp2_with fail
     go_ret
     exact ⟨rfl, ext_trans hx hxq⟩
end Go.Proofs.YtmcgbdbhpnplmaaGreat
