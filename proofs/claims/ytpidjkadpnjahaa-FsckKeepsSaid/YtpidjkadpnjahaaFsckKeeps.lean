/- The statement FsckKeeps: the walk of the law. -/
import Derived.Test.YtpidjkadpnjahaaAlive10
import Derived.Test.YtpidjkadpnjahaaA4
namespace Go.Proofs.Ytpidjkadpnjahaa
open Go Go.RowKit
def toldAt (p : Int) (r : Rec) (e : Ent) : Bool := decide (e.pair = p) && rSame e.rcd r
theorem told_step {l : List Ent} {a : Nat} {f : Ent → Bool} (ha : a < l.length) : (l.take (a + 1)).any f = ((l.take a).any f || f (l.getD a ⟨rZero, 0⟩)) := by
 rw [← Cs_getD ha, List.any_append]
 simp
theorem keeps_told {d : Dsk} (h : dEven d) {p : Nat} (hp : p < 6) (h1 : (pLook (dKeep d 0) p).2.kind ≠ 1) (h2 : hadB (dKeep d 0) p (pLook (dKeep d 0) p).2.ver = false) : (iScan (fClean d).1).any (toldAt p (pLook (dKeep d 0) p).2) = true := by
 rw [fClean_eq h, List.any_eq_true]
 exact ⟨_, keeps_in h.keep hp h1 h2, by simp [toldAt, (rSame_iff _ _).2 rfl]⟩
theorem keeps_all {d : Dsk} (h : dEven d) : (iScan (fClean d).1).length = nTo (dKeep d 0) 6 := by
 rw [fClean_eq h]
 exact keeps_len h.keep
theorem had_same {S : Int → Bool} {v : Int} (h : S v = true) : (fun x => S x || decide (x = v)) = S := by
 funext x
 by_cases e : x = v
 ·subst e
  simp [h]
 ·simp [e]
set_option maxRecDepth 100000 in
set_option maxHeartbeats 4000000 in
theorem fsckKeeps_law (w : World) {v : Value} {d : Dsk} (h : DskV tD w w.heap.size v d) :
  Calls Try.prog 11 #[v] w fun e w' => e = .returned (.bool true) ∧ Ext w w' := by
 have hmm := @run_makeMap Try.prog
 have HMM := Lib.hid hmm
 clear hmm
 obtain ⟨A, n, c, E, m, e, rfl, _, _, _, _, _, _⟩ := h.form
 go_enter Try.func11, Try.ntmps11
 go_upto_region 1 with (fail)
 generalize hwn : World.alloc w _ = W
 have hx : Ext w W := by rw [← hwn]; exact ext_alloc _ _
 have b1 : Box W w.heap.size 42 #[.slice A n c, .slice E m e] := by rw [← hwn]; exact Box.new _ _ _ rfl
 clear hwn
 have h := h.ext hx
 go_wp2_with fail
 refine (alive10_w _).mono ?_
 rintro e0 w0 ⟨rfl, he⟩
 have hx := ext_trans hx he
 have h := h.ext he
 have b1 := b1.ext he
 clear he
 obtain ⟨b1_0, b1_1⟩ := b1.c2
 have b1_z := b1.free
 have b1_l := b1.lt
 go_wp2_with fail
 refine (rightDisk_v h).mono ?_
 rintro e1 w1 ⟨rfl, he⟩
 try clear b1_0 b1_1 b1_z b1_l
 have hx := ext_trans hx he
 have h := h.ext he
 have b1 := b1.ext he
 clear he
 cases hrd : dRight d with
 | false =>
  go_wp2_with fail
  go_ret
  exact ⟨rfl, hx⟩
 | true =>
  have HF := Lib.hid (dRight_fine hrd)
  have HE := Lib.hid (⟨(dRight_dEven hrd).1, (dRight_dEven hrd).2⟩ : dEven d)
  clear hrd
  obtain ⟨b1_0, b1_1⟩ := b1.c2
  have b1_z := b1.free
  have b1_l := b1.lt
  go_wp2_with fail
  refine (fClean_v h HF.out HE.out.len).mono ?_
  rintro e2 w2 ⟨v2, tw2, rfl, d2, r2, he⟩
  try clear b1_0 b1_1 b1_z b1_l
  have hx := ext_trans hx he
  have h := h.ext he
  have b1 := b1.ext he
  clear he
  have HS := Lib.hid (clean_sound HE.out)
  have HT := Lib.hid (fun (p : Nat) (hp : p < 6) => keeps_told HE.out hp)
  have HA := Lib.hid (keeps_all HE.out)
  have HY := Lib.hid (good_fine HE.out.keep)
  generalize (fClean d).1 = x at d2 HS HT HA
  generalize (fClean d).2.1 = hw
  have HX := Lib.hid (good_fine HS.out.2.2)
  clear HE HS
  obtain ⟨A2, n2, c2, E2, m2, e2, rfl, _, _, _, _, _, _⟩ := d2.form
  obtain ⟨A3, n3, c3, rfl, _, _, _⟩ := r2.form
  clear r2
  unfold repC
  go_upto_region 6 with (fail)
  generalize hwn : World.alloc (World.alloc w2 _) _ = w3
  have he : Ext w2 w3 := by rw [← hwn]; exact (ext_alloc _ _).alloc (by simp) _
  have b3 : Box w3 w2.heap.size 42 #[.slice A2 n2 c2, .slice E2 m2 e2] := by rw [← hwn]; exact (Box.new _ _ _ (by simp)).alloc _
  clear hwn
  have hx := ext_trans hx he
  have h := h.ext he
  have b1 := b1.ext he
  have d2 := d2.ext he
  clear he
  obtain ⟨b3_0, b3_1⟩ := b3.c2
  have b3_z := b3.free
  have b3_l := b3.lt
  go_wp2_with fail
  refine (refScan_v d2 HX.out.ok).mono ?_
  rintro e4 w4 ⟨v4, rfl, o4, he⟩
  try clear b3_0 b3_1 b3_z b3_l
  have hx := ext_trans hx he
  have h := h.ext he
  have b1 := b1.ext he
  have b3 := b3.ext he
  clear he
  have r4 := o4.row (T := [74]) (base := 0) (by decide) (Nat.le_refl _)
  clear o4 d2 b3
  obtain ⟨A4, n4, c4, rfl, hc4, hm4, HN4⟩ := r4.form
  unfold maxLen at hm4
  have HA := Lib.hid (HN4.out.trans HA.out)
  generalize iScan x = l at r4 HN4 HT
  have hmm := HMM.out
  go_upto_region 8 with (fail)
  clear hmm
  generalize hwn : World.alloc w4 _ = w5
  have hxd : Ext w4 w5 := by rw [← hwn]; exact ext_alloc _ _
  have hset : OwnSet w5 w4.heap.size 0 (fun _ => false) := by rw [← hwn]; exact OwnSet.made w4
  clear hwn
  obtain ⟨gm, hgm⟩ : ∃ g, g = w4.heap.size := ⟨_, rfl⟩
  rw [← hgm] at hset ⊢
  have HGM := Lib.hid hgm
  have lgw : w.heap.size ≤ gm := by rw [hgm]; exact hx.size
  clear hgm
  have h := h.ext hxd
  have b1 := b1.ext hxd
  have lhz := ext_trans hx hxd |>.size
  obtain ⟨b1_0, b1_1⟩ := b1.c2
  have b1_z := b1.free
  have b1_l := b1.lt
  go_wp2_with fail
  refine (refKeep_v (T := tD) (k := 0) (List.Subset.refl _) lhz h HF.out.ok HF.out.inn).mono ?_
  rintro e6 w6 ⟨v6, rfl, d9, he⟩
  try clear b1_0 b1_1 b1_z b1_l
  have hxd := ext_trans hxd he
  have hset := hset.ext he
  have b1 := b1.ext he
  clear he
  clear lhz h b1
  generalize dKeep d 0 = y at d9 HT HA HY
  clear HF
  obtain ⟨A6, n6, c6, E6, m6, e6, rfl, _, _, _, _, _, _⟩ := d9.form
  go_upto_region 10 with (fail)
  generalize hwn : World.alloc w6 _ = w7
  have he : Ext w6 w7 := by rw [← hwn]; exact ext_alloc _ _
  have b9 : Box w7 w6.heap.size 42 #[.slice A6 n6 c6, .slice E6 m6 e6] := by rw [← hwn]; exact Box.new _ _ _ (by simp)
  clear hwn
  have hl9 := hset.lt
  have hxd := ext_trans hxd he
  have hset := hset.ext he
  have d9 := d9.ext he
  clear he
  obtain ⟨g9, hg9⟩ : ∃ g, g = w6.heap.size := ⟨_, rfl⟩
  rw [← hg9] at b9 hl9 ⊢
  clear hg9
  go_wp2_with fail
  go_loopw [8, 32] (fun vn i wr => ∃ a : Nat, a ≤ 6 ∧ i = .int .i64 a ∧ ∃ k : Nat, vn = .int .i64 k ∧ Hid (k = nTo y a) ∧ k ≤ a ∧ OwnSet wr gm a (hadB y a) ∧ Box wr g9 42 #[.slice A6 n6 c6, .slice E6 m6 e6] ∧ DskV tD wr w.heap.size (.agg #[.slice A6 n6 c6, .slice E6 m6 e6]) y ∧ Ext w4 wr) (fun _ i _ => 6 - (intOf i).toNat)
  case atStart => exact ⟨0, by omega, rfl, 0, rfl, rfl, by omega, hset, b9, d9, hxd⟩
  case round =>
   clear hset b9 d9 hxd
   obtain ⟨a, ha, rfl, k, rfl, HK, hka, hset, b9, d9, hxd⟩ := hrel
   by_cases hlt : a < 6
   ·have e1 : (a : Int) < 6 := by omega
    obtain ⟨b9_0, b9_1⟩ := b9.c2
    have b9_z := b9.free
    have b9_l := b9.lt
    go_wp2_with fail
    refine (refLook_v (p := (a : Int)) d9 HY.out.ok).mono ?_
    rintro e8 w8 ⟨rv, rfl, hr, he⟩
    try clear b9_0 b9_1 b9_z b9_l
    have hxd := ext_trans hxd he
    have hset := hset.ext he
    have b9 := b9.ext he
    have d9 := d9.ext he
    clear he
    have hst := show nTo y (a + 1) = if (pLook y a).2.kind ≠ 1 ∧ hadB y a (pLook y a).2.ver = false then nTo y a + 1 else nTo y a from rfl
    have hvo := ver_ok y (a : Int)
    have HS := Lib.hid (had_step y a)
    have HTA := Lib.hid (HT.out a hlt)
    obtain ⟨how, hhow⟩ : ∃ x, (pLook y (a : Int)).1 = x := ⟨_, rfl⟩
    obtain ⟨r, hr'⟩ : ∃ x, (pLook y (a : Int)).2 = x := ⟨_, rfl⟩
    rw [hhow]
    rw [hr'] at hr hst hvo HS HTA
    have HST := Lib.hid hst
    clear hhow hr' hst
    obtain ⟨u8, rfl, hu8⟩ := hr
    obtain ⟨A8, n8, c8, rfl, _, _⟩ := hu8.form
    go_upto_region 14 with (fail)
    generalize hwn : World.alloc w8 _ = wb
    have he : Ext w8 wb := by rw [← hwn]; exact ext_alloc _ _
    have b12 : Box wb w8.heap.size 30 #[.int .i64 r.kind, .int .i64 r.key, .int .i64 r.ver, .slice A8 n8 c8] := by rw [← hwn]; exact Box.new _ _ _ (by simp)
    clear hwn
    have hl12 := hset.lt
    have hxd := ext_trans hxd he
    have hset := hset.ext he
    have b9 := b9.ext he
    have d9 := d9.ext he
    have hu8 := hu8.ext he
    clear he
    obtain ⟨g12, hg12⟩ : ∃ g, g = w8.heap.size := ⟨_, rfl⟩
    rw [← hg12] at b12 hl12 ⊢
    clear hg12
    by_cases hk1 : r.kind = 1
    ·have q : (r.kind == 1) = true := by simpa using hk1
     have HN2 := Lib.hid (show nTo y (a + 1) = nTo y a by rw [HST.out, if_neg (fun h => h.1 hk1)])
     have hset2 : OwnSet wb gm (a + 1) (hadB y (a + 1)) := by
      rw [HS.out]
      simp only [hk1]
      simpa using hset.sub (Nat.le_succ a)
     clear hk1
     obtain ⟨b12_0, b12_1, b12_2, b12_3⟩ := b12.c4
     have b12_z := b12.free
     have b12_l := b12.lt
     go_wp2_with fail
     try clear b12_0 b12_1 b12_2 b12_3 b12_z b12_l
     refine ⟨⟨a + 1, by omega, rfl, k, rfl, by rw [Hid, HN2.out]; exact HK.out, by omega, hset2, b9, d9, hxd⟩, ?_⟩
     simp only [intOf]
     omega
    ·have q : (r.kind == 1) = false := by simpa using hk1
     have look := hset.look hvo
     have HS2 := Lib.hid (show hadB y (a + 1) = fun v => hadB y a v || decide (v = r.ver) by
      rw [HS.out]
      funext v
      simp [hk1, eq_comm])
     cases hq : hadB y a r.ver with
     | true =>
      rw [hq] at look
      have HN2 := Lib.hid (show nTo y (a + 1) = nTo y a by rw [HST.out, if_neg (fun h => by rw [hq] at h; exact absurd h.2 (by simp))])
      have hset2 : OwnSet wb gm (a + 1) (hadB y (a + 1)) := by
       rw [HS2.out, had_same hq]
       exact hset.sub (Nat.le_succ a)
      clear hk1 hq
      obtain ⟨b12_0, b12_1, b12_2, b12_3⟩ := b12.c4
      have b12_z := b12.free
      have b12_l := b12.lt
      go_wp2_with fail
      try clear b12_0 b12_1 b12_2 b12_3 b12_z b12_l
      refine ⟨⟨a + 1, by omega, rfl, k, rfl, by rw [Hid, HN2.out]; exact HK.out, by omega, hset2, b9, d9, hxd⟩, ?_⟩
      simp only [intOf]
      omega
     | false =>
      rw [hq] at look
      have HN2 := Lib.hid (show nTo y (a + 1) = nTo y a + 1 by rw [HST.out, if_pos ⟨hk1, hq⟩])
      have HTA := Lib.hid (HTA.out hk1 hq)
      clear hk1 hq
      obtain ⟨b12_0, b12_1, b12_2, b12_3⟩ := b12.c4
      have b12_z := b12.free
      have b12_l := b12.lt
      go_upto_region 16 with (at_mapUpdate; (refine wpl_mset rfl (.tmp 50) (.tmp 52) (.const (.bool true)) rfl rfl hset (by unfold maxLen; omega) rfl hvo rfl ?_; intro wc set4 hg4))
      try clear b12_0 b12_1 b12_2 b12_3 b12_z b12_l
      have hset2 : OwnSet wc gm (a + 1) (hadB y (a + 1)) := by rw [HS2.out]; exact set4
      have hkk : Kept tD w.heap.size wb wc := Kept.grown hg4 fun g e => by
       cases e
       obtain ⟨D, ⟨es, clock, hee, _⟩, _⟩ := hset
       exact ⟨lgw, fun cur t _ h => by rw [h] at hee; cases hee⟩
      have hkk0 : Kept [] 0 wb wc := Kept.grown hg4 fun g e => by
       cases e
       obtain ⟨D, ⟨es, clock, hee, _⟩, _⟩ := hset
       exact ⟨Nat.zero_le _, fun cur t _ h => by rw [h] at hee; cases hee⟩
      have d9 := d9.kept hkk
      have hu8 := hu8.kept hkk0
      have b9 : Box wc g9 42 #[.slice A6 n6 c6, .slice E6 m6 e6] := (hg4.block _ b9.lt (fun e => by injection e with e; omega)).trans b9
      have b12 : Box wc g12 30 #[.int .i64 r.kind, .int .i64 r.key, .int .i64 r.ver, .slice A8 n8 c8] := (hg4.block _ b12.lt (fun e => by injection e with e; omega)).trans b12
      have hxd : Ext w4 wc := hxd.grown hg4 hxd.size (fun k e => by cases e; rw [HGM.out]; exact Nat.le_refl _)
      clear set4 hset hg4 look q hkk hkk0 hvo
      have hwr : IntKind.wrap .i64 ((k : Int) + 1) = ((k + 1 : Nat) : Int) := by rw [IntKind.wrap_i64]; omega
      go_wp2_with fail
      try rw [hwr]
      clear hwr
      go_loopw [13, 57] (fun vb i wr => ∃ j : Nat, j ≤ n4 ∧ i = .int .i64 j ∧ ∃ b, vb = .bool b ∧ Hid (b = (l.take j).any (toldAt a r)) ∧ Ext wc wr) (fun _ i _ => n4 - (intOf i).toNat)
      case atStart => exact ⟨0, by omega, rfl, false, rfl, by simp [Hid], Below.refl _ _⟩
      case round =>
       obtain ⟨j, hj, rfl, b, rfl, HB, hd5⟩ := hrel
       have hxd := ext_trans hxd hd5
       have hset2 := hset2.ext hd5
       have b9 := b9.ext hd5
       have d9 := d9.ext hd5
       have b12 := b12.ext hd5
       have hu8 := hu8.ext hd5
       by_cases hlj : j < n4
       ·have i0 : (0 : Int) ≤ (j : Int) := by omega
        have i1 : (j : Int) < (n4 : Int) := by omega
        obtain ⟨g1, o1, u1, rfl, hg1, hu1, f1⟩ := r4.ent_x hlj
        have HST := Lib.hid (told_step (f := toldAt a r) (HN4.out ▸ hlj : j < l.length))
        generalize l.getD j ⟨rZero, 0⟩ = z at f1 hu1 HST
        obtain ⟨A1, n1, c1, rfl, _, _⟩ := hu1.form
        obtain ⟨x0, x1, x2, x3, x4⟩ := f1 _ hxd
        have hu1 := hu1.ext hxd
        clear f1
        go_upto_region 21 with (fail)
        generalize hwn : World.alloc wr _ = wd
        have he : Ext wr wd := by rw [← hwn]; exact ext_alloc _ _
        have b15 : Box wd wr.heap.size 74 #[.int .i64 z.rcd.kind, .int .i64 z.rcd.key, .int .i64 z.rcd.ver, .slice A1 n1 c1, .int .i64 z.pair] := by rw [← hwn]; exact Box.new _ _ _ (by simp)
        clear hwn x0 x1 x2 x3 x4
        have hd5 := ext_trans hd5 he
        have b12 := b12.ext he
        have hu8 := hu8.ext he
        have hu1 := hu1.ext he
        clear he
        cases b with
        | true =>
         have HB2 : Hid (true = (l.take (j + 1)).any (toldAt a r)) := Lib.hid (by rw [HST.out, ← HB.out]; rfl)
         go_wp2_with fail
         refine ⟨⟨j + 1, by omega, rfl, true, rfl, HB2, hd5⟩, ?_⟩
         simp only [intOf]
         omega
        | false =>
         by_cases hp : z.pair = (a : Int)
         ·have q : (z.pair == (a : Int)) = true := by simpa using hp
          have HB2 : Hid (rSame z.rcd r = (l.take (j + 1)).any (toldAt a r)) := Lib.hid (by rw [HST.out, ← HB.out]; unfold toldAt; rw [decide_eq_true hp]; rfl)
          clear hp
          obtain ⟨b15_0, b15_1, b15_2, b15_3, b15_4⟩ := b15.c5
          have b15_z := b15.free
          have b15_l := b15.lt
          obtain ⟨b12_0, b12_1, b12_2, b12_3⟩ := b12.c4
          have b12_z := b12.free
          have b12_l := b12.lt
          go_wp2_with fail
          refine (refSame_v (r := z.rcd) (s := r) ⟨_, rfl, hu1⟩ ⟨_, rfl, hu8⟩).mono ?_
          rintro e7 we ⟨rfl, he⟩
          try clear b15_0 b15_1 b15_2 b15_3 b15_4 b15_z b15_l b12_0 b12_1 b12_2 b12_3 b12_z b12_l
          clear q
          generalize rSame z.rcd r = qq at HB2
          go_wp2_with fail
          refine ⟨⟨j + 1, by omega, rfl, qq, rfl, HB2, ext_trans hd5 he⟩, ?_⟩
          simp only [intOf]
          omega
         ·have q : (z.pair == (a : Int)) = false := by simpa using hp
          have HB2 : Hid (false = (l.take (j + 1)).any (toldAt a r)) := Lib.hid (by rw [HST.out, ← HB.out]; unfold toldAt; rw [decide_eq_false hp]; rfl)
          clear hp
          obtain ⟨b15_0, b15_1, b15_2, b15_3, b15_4⟩ := b15.c5
          have b15_z := b15.free
          have b15_l := b15.lt
          go_wp2_with fail
          refine ⟨⟨j + 1, by omega, rfl, false, rfl, HB2, hd5⟩, ?_⟩
          simp only [intOf]
          omega
       ·have hjn : j = n4 := by omega
        have hb : b = true := by
         rw [HB.out, List.take_of_length_le (by rw [hjn, HN4.out]; exact Nat.le_refl _)]
         exact HTA.out
        subst hb
        go_wp2_with fail
        refine ⟨⟨a + 1, by omega, rfl, k + 1, by simp, by rw [Hid, HN2.out, ← HK.out], by omega, hset2, b9, d9, hxd⟩, ?_⟩
        simp only [intOf]
        omega
   ·obtain rfl : a = 6 := by omega
    obtain rfl : k = n4 := HK.out.trans HA.out.symm
    have q : ((k : Int) == (k : Int)) = true := by simp
    go_wp2_with fail
    go_ret
    exact ⟨rfl, ext_trans hx hxd⟩
end Go.Proofs.Ytpidjkadpnjahaa
