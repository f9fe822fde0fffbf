/- The statement IndexTells: the walk of the law. -/
import Derived.Test.YtpidjkadpnjahaaIt1
import Derived.Deep.Cut
import Derived.Deep.CutRange
namespace Go.Proofs.Ytpidjkadpnjahaa
open Go Go.RowKit
theorem OwnRow.map_set {w w' : World} {rb base b : Nat} {v : Value} {l : List Ent} {S : Int → Bool} {n : Nat} (h : OwnRow eEnt w rb base v l) (hS : OwnSet w b n S) (hg : w.grownBy w' (some b)) (hb : b < rb) (hbb : base ≤ b) : OwnRow eEnt w' rb base v l := by
 obtain ⟨D, ⟨es, clock, he, _⟩, _⟩ := hS
 have hk : Kept [] base w w' := Kept.grown hg fun g e => by
  cases e
  exact ⟨hbb, fun cur t _ h => by rw [h] at he; cases he⟩
 obtain ⟨css, hc, hl, ho⟩ := h
 refine ⟨css, hc.mono fun _ _ h => h.kept hk, hl, ?_⟩
 rcases ho with ho | ⟨g, cap, cur, e1, e2, e3, e4⟩
 ·exact .inl ho
 ·exact .inr ⟨g, cap, cur, e1, e2, (hg.block g (Array.getElem?_eq_some_iff.1 e3).1 (fun e => by injection e with e; omega)).trans e3, e4⟩
theorem drop_one {l : List Ent} {i : Nat} (hi : i < l.length) : (l.drop i).take 1 = [l.getD i ⟨rZero, 0⟩] := by
 rw [List.drop_eq_getElem_cons hi, List.take_succ_cons, List.take_zero, List.getD_eq_getElem?_getD, List.getElem?_eq_getElem hi]
 rfl
theorem sl_facts {i n c : Nat} (hi : i < n) (hc : n ≤ c) (hcm : c ≤ 2 ^ 63 - 1) : (0 : Int) ≤ (i : Int) ∧ IntKind.wrap .i64 ((i : Int) + 1) = (i : Int) + 1 ∧ ((i : Int) + 1).toNat = i + 1 ∧ (0 : Int) ≤ (i : Int) + 1 ∧ i + 1 ≤ c ∧ (i : Int) + 1 ≤ (c : Int) ∧ ¬ c = i := by
 refine ⟨by omega, ?_, by omega, by omega, by omega, by omega, by omega⟩
 rw [IntKind.wrap_i64]
 omega
set_option maxRecDepth 100000 in
set_option maxHeartbeats 4000000 in
theorem indexTells_law (w : World) {v u ev : Value} {d : Dsk} {l : List Ent} {e : Ent} {key ver pairs : Int} (h : DskV tD w w.heap.size v d) (hl : Row eEnt [] w w.heap.size u l) (hev : EntV w w.heap.size ev e) (hep : intOk e.pair) :
  Calls Try.prog 8 #[v, u, ev, .int .i64 key, .int .i64 ver, .int .i64 pairs] w fun e' w' => e' = .returned (.bool true) ∧ Ext w w' := by
 have hmm := @run_makeMap Try.prog
 have HMM := Lib.hid hmm
 clear hmm
 obtain ⟨A, nd, c, E, md, ed, rfl, _, _, _, _, _, _⟩ := h.form
 obtain ⟨A1, n, c1, rfl, hc, hcm, HN⟩ := hl.form
 obtain ⟨A0, n0, c0, rfl, _, hye⟩ := hev.at_
 clear hev
 unfold maxLen at hcm
 go_enter Try.func8, Try.ntmps8
 go_upto_region 1 with (fail)
 generalize hwn : World.alloc (World.alloc w _) _ = W
 have hx : Ext w W := by rw [← hwn]; (repeat (with_reducible (first | assumption | exact Below.refl _ _ | refine Below.setCell ?_ (by simp <;> omega) _ | refine Below.alloc ?_ (by simp <;> omega) _ | refine Below.drew ?_ | refine below_drewN ?_ _)))
 have b6 : Box W w.heap.size 42 #[.slice A nd c, .slice E md ed] := by rw [← hwn]; exact (Box.new _ _ _ rfl).alloc _
 have b8 : Box W (w.heap.size + 1) 74 (cE e (.slice A0 n0 c0)) := by rw [← hwn]; exact Box.new _ _ _ (by simp)
 clear hwn
 obtain ⟨g8, hg8⟩ : ∃ g, g = w.heap.size + 1 := ⟨_, rfl⟩
 have l8 : w.heap.size ≤ g8 := by omega
 rw [← hg8] at b8 ⊢
 clear hg8
 have h := h.ext hx
 have hl := hl.ext hx
 have hye := hye.ext hx
 go_cut [33] from 24 to 33 (fun t33 wr => t33 = .bool false ∧ Ext W wr)
 case first =>
  have hd : Ext W W.drew := (Below.refl _ _).drew
  have b6 := b6.drew
  have h := h.ext hd
  cases hrd : dRight d with
  | false =>
   refine wp_region_ext 10 [0, 2, 3, 4, 5, 6, 7, 8, 9] false rfl (by kernel_rfl) (by kernel_rfl) ?_
   generalize W.drew = D at hd b6 h ⊢
   apply mixF 0 (by kernel_rfl) (by rfl) (by rfl)
   ·(intro w' hx; obtain ⟨x0, x1⟩ := (b6.ext hx).c2; go_simp <;> with_reducible rfl)
   simp only [pA, pB, pC, pD]
   refine mixS 1 (by kernel_rfl) (by kernel_rfl) (by rfl) (by rfl) (fun K hK => ?_)
   go_wp2_with (go_at_call 37; refine (rightDisk_v h).mono ?_; rintro e w1 ⟨rfl, he⟩)
   refine hK.out _ _ (he) ?_
   clear hK K
   try simp only [pA, pB, pC, pD]
   apply mixF 2 (by kernel_rfl) (by rfl) (by rfl)
   ·(intro w' hx; go_simp <;> with_reducible rfl)
   simp only [pA, pB, pC, pD]
   refine mixFskip 3 (by kernel_rfl) (by rfl) (by rfl) ?_
   simp only [pA, pB, pC, pD]
   refine mixFskip 4 (by kernel_rfl) (by rfl) (by rfl) ?_
   simp only [pA, pB, pC, pD]
   refine mixFskip 5 (by kernel_rfl) (by rfl) (by rfl) ?_
   simp only [pA, pB, pC, pD]
   refine mixFskip 6 (by kernel_rfl) (by rfl) (by rfl) ?_
   simp only [pA, pB, pC, pD]
   refine mixFskip 7 (by kernel_rfl) (by rfl) (by rfl) ?_
   simp only [pA, pB, pC, pD]
   refine mixFskip 8 (by kernel_rfl) (by rfl) (by rfl) ?_
   simp only [pA, pB, pC, pD]
   apply mixF 9 (by kernel_rfl) (by rfl) (by rfl)
   ·(intro w' hx; go_simp <;> with_reducible rfl)
   simp only [pA, pB, pC, pD]
   refine mixEnd (by kernel_rfl) ?_
   go_wp2_with fail
   go_meet
   exact ⟨rfl, ext_trans hd he⟩
  | true =>
   have HF := Lib.hid (dRight_fine hrd)
   refine wp_region_ext 10 [0, 2, 3, 5, 8, 9] false rfl (by kernel_rfl) (by kernel_rfl) ?_
   generalize W.drew = D at hd b6 h ⊢
   apply mixF 0 (by kernel_rfl) (by rfl) (by rfl)
   ·(intro w' hx; obtain ⟨x0, x1⟩ := (b6.ext hx).c2; go_simp <;> with_reducible rfl)
   simp only [pA, pB, pC, pD]
   refine mixS 1 (by kernel_rfl) (by kernel_rfl) (by rfl) (by rfl) (fun K hK => ?_)
   go_wp2_with (go_at_call 37; refine (rightDisk_v h).mono ?_; rintro e w1 ⟨rfl, he⟩)
   refine hK.out _ _ (he) ?_
   clear hK K
   try simp only [pA, pB, pC, pD]
   have hd := ext_trans hd he
   have b6 := b6.ext he
   have h := h.ext he
   clear he
   apply mixF 2 (by kernel_rfl) (by rfl) (by rfl)
   ·(intro w' hx; obtain ⟨x0, x1⟩ := (b6.ext hx).c2; go_simp <;> with_reducible rfl)
   simp only [pA, pB, pC, pD]
   apply mixF 3 (by kernel_rfl) (by rfl) (by rfl)
   ·(intro w' hx; obtain ⟨x0, x1⟩ := (b6.ext hx).c2; go_simp <;> with_reducible rfl)
   simp only [pA, pB, pC, pD]
   apply mixF 5 (by kernel_rfl) (by rfl) (by rfl)
   ·(intro w' hx; obtain ⟨x0, x1⟩ := (b6.ext hx).c2; go_simp <;> with_reducible rfl)
   simp only [pA, pB, pC, pD]
   refine mixS 4 (by kernel_rfl) (by kernel_rfl) (by rfl) (by rfl) (fun K hK => ?_)
   go_wp2_with (go_at_call 69; refine (ixScan_v h HF.out.ok).mono ?_; rintro e w2 ⟨v2, rfl, o2, he⟩)
   refine hK.out _ _ (he) ?_
   clear hK K
   try simp only [pA, pB, pC, pD]
   have hd := ext_trans hd he
   have h := h.ext he
   clear he b6
   refine mixS 6 (by kernel_rfl) (by kernel_rfl) (by rfl) (by rfl) (fun K hK => ?_)
   go_wp2_with (go_at_call 70; refine (refScan_v h HF.out.ok).mono ?_; rintro e w3 ⟨v3, rfl, o3, he⟩)
   refine hK.out _ _ (he) ?_
   clear hK K
   try simp only [pA, pB, pC, pD]
   have hd := ext_trans hd he
   have o2 := o2.ext he
   clear he
   refine mixS 7 (by kernel_rfl) (by kernel_rfl) (by rfl) (by rfl) (fun K hK => ?_)
   go_wp2_with (go_at_call 68; refine (sameEnts_v (o2.row (T := [74]) (base := 0) (by decide) (Nat.le_refl _)) (o3.row (T := [74]) (base := 0) (by decide) (Nat.le_refl _))).mono ?_; rintro e w4 ⟨rfl, he⟩)
   refine hK.out _ _ (he) ?_
   clear hK K
   try simp only [pA, pB, pC, pD]
   rw [esSame_id]
   apply mixF 8 (by kernel_rfl) (by rfl) (by rfl)
   ·(intro w' hx; go_simp <;> with_reducible rfl)
   simp only [pA, pB, pC, pD]
   apply mixF 9 (by kernel_rfl) (by rfl) (by rfl)
   ·(intro w' hx; go_simp <;> with_reducible rfl)
   simp only [pA, pB, pC, pD]
   refine mixEnd (by kernel_rfl) ?_
   go_wp2_with fail
   go_meet
   exact ⟨rfl, ext_trans hd he⟩
 case rest =>
  obtain ⟨rfl, hd⟩ := hcut
  have hx := ext_trans hx hd
  have b8 := b8.ext hd
  have hye := hye.ext hd
  have hl := hl.ext hd
  clear hd h b6
  go_wp2_with fail
  refine (rightIndex_v hl).mono ?_
  rintro e1 w1 ⟨r1, rfl, HR1, he⟩
  have hx := ext_trans hx he
  have hl := hl.ext he
  have hye := hye.ext he
  have b8 := b8.ext he
  clear he
  cases r1 with
  | false =>
   go_wp2_with fail
   go_ret
   exact ⟨rfl, hx⟩
  | true =>
   have HR := Lib.hid (HR1.out.1 rfl)
   clear HR1
   have hll := right_len HR.out
   have HS := Lib.hid (right_small HR.out)
   have HPR : Hid (∀ j, j < n → intOk (l.getD j ⟨rZero, 0⟩).pair) := Lib.hid (fun j hj => by
    have := (eOne_iff _).1 (HR.out.1 _ (ent_mem (HN.out ▸ hj)))
    exact ⟨by omega, by omega⟩)
   by_cases hp1 : 1000 < pairs
   ·have q : decide (1000 < pairs) = true := by simpa using hp1
    go_wp2_with fail
    go_ret
    exact ⟨rfl, hx⟩
   ·have q : decide (1000 < pairs) = false := by simpa using hp1
    have hmm := HMM.out
    go_upto_region 9 with (fail)
    clear hmm q
    generalize hwn : World.alloc w1 _ = w2
    have he : Ext w1 w2 := by rw [← hwn]; exact ext_alloc _ _
    have set0 : OwnSet w2 w1.heap.size 0 (fun _ => false) := by rw [← hwn]; exact OwnSet.made w1
    clear hwn
    obtain ⟨gm, hgm⟩ : ∃ g, g = w1.heap.size := ⟨_, rfl⟩
    have lm8 : g8 < gm := by have := b8.lt; omega
    rw [← hgm] at set0 ⊢
    have HGM := Lib.hid hgm
    clear hgm
    have b8 := b8.ext he
    go_loopw [14, 15, 16, 44] (fun vr vl vf i wr => ∃ a : Nat, a ≤ n ∧ i = .int .i64 a ∧ ∃ lz fz : Int, vl = .int .i64 lz ∧ vf = .int .i64 fz ∧ Hid (lz = lastI l key a) ∧ Hid (fz = findI l key ver a) ∧ OwnRow eEnt wr (gm + 1) w.heap.size vr (restTo l e.pair a) ∧ OwnSet wr gm a (usedTo l a) ∧ Box wr g8 74 (cE e (.slice A0 n0 c0)) ∧ Ext w1 wr) (fun _ _ _ i _ => n - (intOf i).toNat)
    case atStart => exact ⟨0, by omega, rfl, -1, -1, rfl, rfl, rfl, rfl, OwnRow.nil _ _ _ _, set0, b8, he⟩
    case round =>
     clear set0 b8 he
     obtain ⟨a, ha, rfl, lz, fz, rfl, rfl, HLZ, HFZ, own, hset, b8, hd⟩ := hrel
     have hx := ext_trans hx hd
     have hye := hye.ext hd
     have hz := hx.size
     have lmz := hset.lt
     by_cases hlt : a < n
     ·have i0 : (0 : Int) ≤ (a : Int) := by omega
      have i1 : (a : Int) < (n : Int) := by omega
      have hal : a < l.length := HN.out ▸ hlt
      obtain ⟨g1, o1, u1, hA1, hg1, hu1, f1⟩ := hl.ent_x hlt
      have RH := Lib.hid (fun h => rest_hit (p := e.pair) hal h)
      have RM := Lib.hid (fun h => rest_miss (p := e.pair) hal h)
      have US := Lib.hid (used_step hal)
      have hpo := HPR.out a hlt
      have LS := Lib.hid (show lastI l key (a + 1) = if (l.getD a ⟨rZero, 0⟩).rcd.key = key then (a : Int) else lastI l key a from rfl)
      have FS := Lib.hid (show findI l key ver (a + 1) = if (l.getD a ⟨rZero, 0⟩).rcd.key = key ∧ (l.getD a ⟨rZero, 0⟩).rcd.ver = ver ∧ findI l key ver a < 0 then (a : Int) else findI l key ver a from rfl)
      have hfb := findI_bd l key ver a
      rw [← HFZ.out] at hfb FS
      generalize l.getD a ⟨rZero, 0⟩ = x at f1 hu1 RH RM US hpo LS FS
      obtain ⟨AX, nx, cx, rfl, _, _⟩ := hu1.form
      obtain ⟨x0, x1, x2, x3, x4⟩ := f1 _ hd
      have hu1 := hu1.ext hd
      clear f1 hg1
      subst hA1
      go_upto_region 11 with (fail)
      generalize hwn : World.alloc wr _ = w3
      have he : Ext wr w3 := by rw [← hwn]; exact ext_alloc _ _
      have b18 : Box w3 wr.heap.size 74 (cE x (.slice AX nx cx)) := by rw [← hwn]; exact Box.new _ _ _ (by simp)
      clear hwn x0 x1 x2 x3 x4
      have hd := ext_trans hd he
      have hne := own_new own (Nat.le_refl _)
      have hx := ext_trans hx he
      have hye := hye.ext he
      have b8 := b8.ext he
      have hu1 := hu1.ext he
      have own := own.ext he
      have hset := hset.ext he
      clear he
      obtain ⟨b18_0, b18_1, b18_2, b18_3, b18_4⟩ := b18.c5
      have b18_z := b18.free
      have b18_l := b18.lt
      go_upto_region 12 with (at_mapUpdate; (refine wpl_mset rfl (.tmp 49) (.tmp 51) (.const (.bool true)) rfl rfl hset (by unfold maxLen; omega) rfl hpo rfl ?_; intro w4 set4 hg4))
      try clear b18_0 b18_1 b18_2 b18_3 b18_4 b18_z b18_l
      have hset2 : OwnSet w4 gm (a + 1) (usedTo l (a + 1)) := by rw [US.out]; exact set4
      have lgw : w.heap.size ≤ gm := by omega
      have own := own.map_set hset hg4 (Nat.lt_succ_self _) lgw
      have hd : Ext w1 w4 := hd.grown hg4 hd.size (fun k e => by cases e; rw [HGM.out]; exact Nat.le_refl _)
      have hx : Ext w w4 := hx.grown hg4 hx.size (fun k e => by cases e; exact lgw)
      have b8 : Box w4 g8 74 (cE e (.slice A0 n0 c0)) := (hg4.block _ b8.lt (fun e => by injection e with e; omega)).trans b8
      have b18 : Box w4 wr.heap.size 74 (cE x (.slice AX nx cx)) := (hg4.block _ b18.lt (fun e => by injection e with e; omega)).trans b18
      have hkk : Kept [] w.heap.size w3 w4 := Kept.grown hg4 fun g e => by
       cases e
       obtain ⟨D, ⟨es, clock, hee, _⟩, _⟩ := hset
       exact ⟨lgw, fun cur t _ h => by rw [h] at hee; cases hee⟩
      have hu1 := hu1.kept hkk
      have hye := hye.kept hkk
      clear hkk set4 hset hg4 US hpo hlt
      have lw4 := b18.lt
      by_cases k1 : x.pair = e.pair
      ·have q1 : (x.pair != e.pair) = false := by simpa using k1
       rw [← RH.out k1] at own
       clear k1 RH RM
       obtain ⟨b18_0, b18_1, b18_2, b18_3, b18_4⟩ := b18.c5
       have b18_z := b18.free
       have b18_l := b18.lt
       obtain ⟨b8_0, b8_1, b8_2, b8_3, b8_4⟩ := b8.c5
       have b8_z := b8.free
       have b8_l := b8.lt
       go_upto_region 14 with (fail)
       try clear b18_0 b18_1 b18_2 b18_3 b18_4 b18_z b18_l b8_0 b8_1 b8_2 b8_3 b8_4 b8_z b8_l
       clear q1
       by_cases k2 : x.rcd.key = key
       ·have q2 : (x.rcd.key == key) = true := by simpa using k2
        have HLZ2 : Hid ((a : Int) = lastI l key (a + 1)) := Lib.hid (by rw [LS.out, if_pos k2])
        by_cases k3 : x.rcd.ver = ver
        ·have q3 : (x.rcd.ver == ver) = true := by simpa using k3
         by_cases k4 : fz < 0
         ·have q4 : decide (fz < 0) = true := by simpa using k4
          have HFZ2 : Hid ((a : Int) = findI l key ver (a + 1)) := Lib.hid (by rw [FS.out, if_pos ⟨k2, k3, k4⟩])
          clear k2 k3
          obtain ⟨b18_0, b18_1, b18_2, b18_3, b18_4⟩ := b18.c5
          have b18_z := b18.free
          have b18_l := b18.lt
          go_wp2_with fail
          try clear b18_0 b18_1 b18_2 b18_3 b18_4 b18_z b18_l
          refine ⟨⟨a + 1, by omega, rfl, _, _, rfl, rfl, HLZ2, HFZ2, own, hset2, b8, hd⟩, ?_⟩
          simp only [intOf]
          omega
         ·have q4 : decide (fz < 0) = false := by simpa using k4
          have HFZ2 : Hid (fz = findI l key ver (a + 1)) := Lib.hid (by rw [FS.out, if_neg (fun h => k4 h.2.2)])
          clear k2 k3
          obtain ⟨b18_0, b18_1, b18_2, b18_3, b18_4⟩ := b18.c5
          have b18_z := b18.free
          have b18_l := b18.lt
          go_wp2_with fail
          try clear b18_0 b18_1 b18_2 b18_3 b18_4 b18_z b18_l
          refine ⟨⟨a + 1, by omega, rfl, _, _, rfl, rfl, HLZ2, HFZ2, own, hset2, b8, hd⟩, ?_⟩
          simp only [intOf]
          omega
        ·have q3 : (x.rcd.ver == ver) = false := by simpa using k3
         have HFZ2 : Hid (fz = findI l key ver (a + 1)) := Lib.hid (by rw [FS.out, if_neg (fun h => k3 h.2.1)])
         clear k2 k3
         obtain ⟨b18_0, b18_1, b18_2, b18_3, b18_4⟩ := b18.c5
         have b18_z := b18.free
         have b18_l := b18.lt
         go_wp2_with fail
         try clear b18_0 b18_1 b18_2 b18_3 b18_4 b18_z b18_l
         refine ⟨⟨a + 1, by omega, rfl, _, _, rfl, rfl, HLZ2, HFZ2, own, hset2, b8, hd⟩, ?_⟩
         simp only [intOf]
         omega
       ·have q2 : (x.rcd.key == key) = false := by simpa using k2
        have HLZ2 : Hid (lz = lastI l key (a + 1)) := Lib.hid (by rw [LS.out, if_neg k2]; exact HLZ.out)
        have HFZ2 : Hid (fz = findI l key ver (a + 1)) := Lib.hid (by rw [FS.out, if_neg (fun h => k2 h.1)])
        clear k2
        obtain ⟨b18_0, b18_1, b18_2, b18_3, b18_4⟩ := b18.c5
        have b18_z := b18.free
        have b18_l := b18.lt
        go_wp2_with fail
        try clear b18_0 b18_1 b18_2 b18_3 b18_4 b18_z b18_l
        refine ⟨⟨a + 1, by omega, rfl, _, _, rfl, rfl, HLZ2, HFZ2, own, hset2, b8, hd⟩, ?_⟩
        simp only [intOf]
        omega
      ·have q1 : (x.pair != e.pair) = true := by simpa using k1
       have HL9 : Hid ((restTo l e.pair a).length + 1 ≤ lim) := Lib.hid (by have := rest_len l e.pair a; rw [lim_def]; omega)
       have RM := Lib.hid (RM.out k1)
       clear k1 RH
       obtain ⟨b18_0, b18_1, b18_2, b18_3, b18_4⟩ := b18.c5
       have b18_z := b18.free
       have b18_l := b18.lt
       obtain ⟨b8_0, b8_1, b8_2, b8_3, b8_4⟩ := b8.c5
       have b8_z := b8.free
       have b8_l := b8.lt
       go_upto_region 14 with (at_builtin; (refine wpl_ent rfl (.tmp 57) (.tmp 59) rfl rfl (own.ext (ext_alloc _ _)) rfl (Sl.new _ _ _ _ 5 1 rfl (by unfold maxLen; omega) (Nat.lt_succ_self _)) (y := x) ⟨_, rfl, hu1.ext (ext_alloc _ _)⟩ HL9.out (by rw [size_alloc]; omega) (by omega) ?_; intro v7 w7 own7 hg7 hb7))
       try clear b18_0 b18_1 b18_2 b18_3 b18_4 b18_z b18_l b8_0 b8_1 b8_2 b8_3 b8_4 b8_z b8_l
       clear q1
       have own : OwnRow eEnt w7 (gm + 1) w.heap.size v7 (restTo l e.pair (a + 1)) := by rw [RM.out]; exact own7
       clear own7
       have b18 : Box w7 wr.heap.size 74 (cE x (.slice AX nx cx)) := (hg7.block _ (b18.alloc _).lt hne).trans (b18.alloc _)
       have b8 : Box w7 g8 74 (cE e (.slice A0 n0 c0)) := (b8.alloc _).below hb7 (by omega)
       have hset2 : OwnSet w7 gm (a + 1) (usedTo l (a + 1)) := (hset2.ext (ext_alloc _ _)).below hb7 (Nat.lt_succ_self _)
       have hd : Ext w1 w7 := (hd.alloc hd.size _).trans (hb7.mono (by have := HGM.out; omega))
       by_cases k2 : x.rcd.key = key
       ·have q2 : (x.rcd.key == key) = true := by simpa using k2
        have HLZ2 : Hid ((a : Int) = lastI l key (a + 1)) := Lib.hid (by rw [LS.out, if_pos k2])
        by_cases k3 : x.rcd.ver = ver
        ·have q3 : (x.rcd.ver == ver) = true := by simpa using k3
         by_cases k4 : fz < 0
         ·have q4 : decide (fz < 0) = true := by simpa using k4
          have HFZ2 : Hid ((a : Int) = findI l key ver (a + 1)) := Lib.hid (by rw [FS.out, if_pos ⟨k2, k3, k4⟩])
          clear k2 k3
          obtain ⟨b18_0, b18_1, b18_2, b18_3, b18_4⟩ := b18.c5
          have b18_z := b18.free
          have b18_l := b18.lt
          go_wp2_with fail
          try clear b18_0 b18_1 b18_2 b18_3 b18_4 b18_z b18_l
          refine ⟨⟨a + 1, by omega, rfl, _, _, rfl, rfl, HLZ2, HFZ2, own, hset2, b8, hd⟩, ?_⟩
          simp only [intOf]
          omega
         ·have q4 : decide (fz < 0) = false := by simpa using k4
          have HFZ2 : Hid (fz = findI l key ver (a + 1)) := Lib.hid (by rw [FS.out, if_neg (fun h => k4 h.2.2)])
          clear k2 k3
          obtain ⟨b18_0, b18_1, b18_2, b18_3, b18_4⟩ := b18.c5
          have b18_z := b18.free
          have b18_l := b18.lt
          go_wp2_with fail
          try clear b18_0 b18_1 b18_2 b18_3 b18_4 b18_z b18_l
          refine ⟨⟨a + 1, by omega, rfl, _, _, rfl, rfl, HLZ2, HFZ2, own, hset2, b8, hd⟩, ?_⟩
          simp only [intOf]
          omega
        ·have q3 : (x.rcd.ver == ver) = false := by simpa using k3
         have HFZ2 : Hid (fz = findI l key ver (a + 1)) := Lib.hid (by rw [FS.out, if_neg (fun h => k3 h.2.1)])
         clear k2 k3
         obtain ⟨b18_0, b18_1, b18_2, b18_3, b18_4⟩ := b18.c5
         have b18_z := b18.free
         have b18_l := b18.lt
         go_wp2_with fail
         try clear b18_0 b18_1 b18_2 b18_3 b18_4 b18_z b18_l
         refine ⟨⟨a + 1, by omega, rfl, _, _, rfl, rfl, HLZ2, HFZ2, own, hset2, b8, hd⟩, ?_⟩
         simp only [intOf]
         omega
       ·have q2 : (x.rcd.key == key) = false := by simpa using k2
        have HLZ2 : Hid (lz = lastI l key (a + 1)) := Lib.hid (by rw [LS.out, if_neg k2]; exact HLZ.out)
        have HFZ2 : Hid (fz = findI l key ver (a + 1)) := Lib.hid (by rw [FS.out, if_neg (fun h => k2 h.1)])
        clear k2
        obtain ⟨b18_0, b18_1, b18_2, b18_3, b18_4⟩ := b18.c5
        have b18_z := b18.free
        have b18_l := b18.lt
        go_wp2_with fail
        try clear b18_0 b18_1 b18_2 b18_3 b18_4 b18_z b18_l
        refine ⟨⟨a + 1, by omega, rfl, _, _, rfl, rfl, HLZ2, HFZ2, own, hset2, b8, hd⟩, ?_⟩
        simp only [intOf]
        omega
     ·obtain rfl : a = n := by omega
      have hU : usedTo l a = iUsed l := funext fun p => by rw [HN.out]; exact used_all l p
      have hR : restTo l e.pair a = iDrop l e.pair := by rw [HN.out]; unfold restTo iDrop; rw [List.take_length]
      rw [hU] at hset
      rw [hR] at own
      clear hU hR
      have rR := own.row (T := [74]) (by decide) (by omega)
      have HLZ : Hid (lz = lastI l key l.length) := Lib.hid (by rw [← HN.out]; exact HLZ.out)
      have HFZ : Hid (fz = findI l key ver l.length) := Lib.hid (by rw [← HN.out]; exact HFZ.out)
      clear own hz lmz lm8 hlt HPR
      have hal : a ≤ 1001 := by have := HN.out; omega
      have hl := hl.ext hd
      have hp2 : pairs ≤ 100000 := by omega
      go_wp2_with fail
      go_loopw [19] (fun i wq => ∃ b : Nat, b ≤ a ∧ i = .int .i64 b ∧ Hid (∀ j : Nat, j < b → iUsed l j = true) ∧ wq = wr) (fun i _ => a + 1 - (intOf i).toNat)
      case atStart => exact ⟨0, by omega, rfl, fun j hj => (by omega), rfl⟩
      case round =>
       obtain ⟨b, hb, rfl, HB, rfl⟩ := hrel
       have look := hset.look (k := (b : Int)) (by unfold intOk; omega)
       cases hq : iUsed l (b : Int) with
       | true =>
        rw [hq] at look
        have HB2 : Hid (∀ j : Nat, j < b + 1 → iUsed l j = true) := Lib.hid (fun j hj => if hjb : j = b then (by rw [hjb]; exact hq) else HB.out j (by omega))
        have hba : b + 1 ≤ a := by rw [HN.out]; exact free_bound HB2.out
        clear hq HB
        go_wp2_with fail
        refine ⟨⟨b + 1, hba, rfl, HB2, trivial⟩, ?_⟩
        simp only [intOf]
        omega
       | false =>
        rw [hq] at look
        have HFR := Lib.hid (free_eq (p := pairs) HB.out hq)
        clear hq HB
        go_upto_if 85 with (fail)
        clear look
        go_cut [19] from 83 to 85 (fun t19 wq => t19 = .int .i64 (iFree l pairs) ∧ wq = wr)
        case first =>
         by_cases hp3 : pairs ≤ (b : Int)
         ·have HFR2 := Lib.hid (show iFree l pairs = -1 by rw [HFR.out, if_pos hp3])
          rw [decide_eq_true hp3]
          clear hp3
          go_wp2_with fail
          go_meet
          exact ⟨by rw [HFR2.out], rfl⟩
         ·have HFR2 := Lib.hid (show iFree l pairs = b by rw [HFR.out, if_neg hp3])
          rw [decide_eq_false hp3]
          clear hp3
          go_wp2_with fail
          go_meet
          exact ⟨by rw [HFR2.out], rfl⟩
        case rest =>
         obtain ⟨rfl, rfl⟩ := hcut
         clear HFR hb
         go_wp2_with fail
         refine (ixLast_v (key := key) hl HS.out).mono ?_
         rintro e3 w3 ⟨v3, b3, rfl, hf3, he⟩
         have hx := ext_trans hx he
         have hl := hl.ext he
         have hye := hye.ext he
         have rR := rR.ext he
         have b8 := b8.ext he
         have hset := hset.ext he
         clear he
         obtain ⟨hb3, hv3⟩ := hf3
         have HB3 := Lib.hid hb3
         clear hb3
         obtain ⟨A3, n3, c3, rfl, _, hy3⟩ := hv3.at_
         clear hv3
         go_upto_region 25 with (fail)
         generalize hwn : World.alloc w3 _ = w4
         have he : Ext w3 w4 := by rw [← hwn]; exact ext_alloc _ _
         have b20 : Box w4 w3.heap.size 74 (cE ((iLast l key).getD ⟨rZero, 0⟩) (.slice A3 n3 c3)) := by rw [← hwn]; exact Box.new _ _ _ (by simp)
         clear hwn
         have hx := ext_trans hx he
         have hl := hl.ext he
         have hye := hye.ext he
         have rR := rR.ext he
         have b8 := b8.ext he
         have hset := hset.ext he
         have hy3 := hy3.ext he
         clear he
         obtain ⟨g20, hg20⟩ : ∃ g, g = w3.heap.size := ⟨_, rfl⟩
         rw [← hg20] at b20 ⊢
         clear hg20
         go_wp2_with fail
         refine (ixFind_v (k := key) (x := ver) hl HS.out).mono ?_
         rintro e5 w5 ⟨v5, b5, rfl, hf5, he⟩
         have hx := ext_trans hx he
         have hl := hl.ext he
         have hye := hye.ext he
         have rR := rR.ext he
         have b8 := b8.ext he
         have hset := hset.ext he
         have hy3 := hy3.ext he
         have b20 := b20.ext he
         clear he
         obtain ⟨hb5, hv5⟩ := hf5
         have HB5 := Lib.hid hb5
         clear hb5
         obtain ⟨A5, n5, c5, rfl, _, hy5⟩ := hv5.at_
         clear hv5
         go_upto_region 26 with (fail)
         generalize hwn : World.alloc w5 _ = w6
         have he : Ext w5 w6 := by rw [← hwn]; exact ext_alloc _ _
         have b22 : Box w6 w5.heap.size 74 (cE ((iFind l key ver).getD ⟨rZero, 0⟩) (.slice A5 n5 c5)) := by rw [← hwn]; exact Box.new _ _ _ (by simp)
         clear hwn
         have hx := ext_trans hx he
         have hl := hl.ext he
         have hye := hye.ext he
         have rR := rR.ext he
         have b8 := b8.ext he
         have hset := hset.ext he
         have hy3 := hy3.ext he
         have b20 := b20.ext he
         have hy5 := hy5.ext he
         clear he
         obtain ⟨g22, hg22⟩ : ∃ g, g = w5.heap.size := ⟨_, rfl⟩
         rw [← hg22] at b22 ⊢
         clear hg22
         go_cut [136] from 99 to 136 (fun t136 wq => t136 = .bool false ∧ Ext w6 wq)
         case first => 
          have hd : Ext w6 w6.drew := (Below.refl _ _).drew
          have b20 := b20.drew
          have b22 := b22.drew
          have hl := hl.ext hd
          have hy3 := hy3.ext hd
          have hy5 := hy5.ext hd
          clear hx hye rR b8 hset
          rcases lastI_last (l := l) (key := key) with ⟨h1, h2⟩ | ⟨i, hi, h1, h2⟩
          ·obtain rfl : lz = -1 := HLZ.out.trans h1
           rw [h2] at b20 hy3
           obtain rfl : b3 = false := HB3.out.trans (by rw [h2]; rfl)
           clear h1 h2
           rcases findI_find (l := l) (key := key) (ver := ver) with ⟨h1, h2⟩ | ⟨j, hj, h1, h2⟩
           ·skip
            obtain rfl : fz = -1 := HFZ.out.trans h1
            rw [h2] at b22 hy5
            obtain rfl : b5 = false := HB5.out.trans (by rw [h2]; rfl)
            clear h1 h2
            refine wp_region_ext 38 [0, 1, 2, 3, 4, 5, 6, 7, 8, 9, 10, 11, 12, 13, 14, 15, 16, 17, 18, 19, 20, 21, 22, 23, 24, 25, 26, 27, 28, 29, 30, 31, 32, 33, 34, 35, 36, 37] false rfl (by kernel_rfl) (by kernel_rfl) ?_
            generalize w6.drew = D at hd b20 b22 hl hy3 hy5 ⊢
            clear hl HB3 HB5
            apply mixF 0 (by kernel_rfl) (by rfl) (by rfl)
            ·(intro w' hx; go_simp <;> with_reducible rfl)
            simp only [pA, pB, pC, pD]
            apply mixF 1 (by kernel_rfl) (by rfl) (by rfl)
            ·(intro w' hx; go_simp <;> with_reducible rfl)
            simp only [pA, pB, pC, pD]
            apply mixF 2 (by kernel_rfl) (by rfl) (by rfl)
            ·(intro w' hx; go_simp <;> with_reducible rfl)
            simp only [pA, pB, pC, pD]
            apply mixF 3 (by kernel_rfl) (by rfl) (by rfl)
            ·(intro w' hx; go_simp <;> with_reducible rfl)
            simp only [pA, pB, pC, pD]
            apply mixF 4 (by kernel_rfl) (by rfl) (by rfl)
            ·(intro w' hx; go_simp <;> with_reducible rfl)
            simp only [pA, pB, pC, pD]
            apply mixF 5 (by kernel_rfl) (by rfl) (by rfl)
            ·(intro w' hx; go_simp <;> with_reducible rfl)
            simp only [pA, pB, pC, pD]
            apply mixF 6 (by kernel_rfl) (by rfl) (by rfl)
            ·(intro w' hx; go_simp <;> with_reducible rfl)
            simp only [pA, pB, pC, pD]
            refine mixFskip 7 (by kernel_rfl) (by rfl) (by rfl) ?_
            simp only [pA, pB, pC, pD]
            refine mixFskip 8 (by kernel_rfl) (by rfl) (by rfl) ?_
            simp only [pA, pB, pC, pD]
            refine mixFskip 9 (by kernel_rfl) (by rfl) (by rfl) ?_
            simp only [pA, pB, pC, pD]
            refine mixFskip 10 (by kernel_rfl) (by rfl) (by rfl) ?_
            simp only [pA, pB, pC, pD]
            refine mixFskip 11 (by kernel_rfl) (by rfl) (by rfl) ?_
            simp only [pA, pB, pC, pD]
            refine mixFskip 12 (by kernel_rfl) (by rfl) (by rfl) ?_
            simp only [pA, pB, pC, pD]
            refine mixFskip 13 (by kernel_rfl) (by rfl) (by rfl) ?_
            simp only [pA, pB, pC, pD]
            refine mixFskip 14 (by kernel_rfl) (by rfl) (by rfl) ?_
            simp only [pA, pB, pC, pD]
            refine mixFskip 15 (by kernel_rfl) (by rfl) (by rfl) ?_
            simp only [pA, pB, pC, pD]
            apply mixF 16 (by kernel_rfl) (by rfl) (by rfl)
            ·(intro w' hx; go_simp <;> with_reducible rfl)
            simp only [pA, pB, pC, pD]
            apply mixF 17 (by kernel_rfl) (by rfl) (by rfl)
            ·(intro w' hx; go_simp <;> with_reducible rfl)
            simp only [pA, pB, pC, pD]
            apply mixF 18 (by kernel_rfl) (by rfl) (by rfl)
            ·(intro w' hx; go_simp <;> with_reducible rfl)
            simp only [pA, pB, pC, pD]
            apply mixF 19 (by kernel_rfl) (by rfl) (by rfl)
            ·(intro w' hx; go_simp <;> with_reducible rfl)
            simp only [pA, pB, pC, pD]
            apply mixF 20 (by kernel_rfl) (by rfl) (by rfl)
            ·(intro w' hx; go_simp <;> with_reducible rfl)
            simp only [pA, pB, pC, pD]
            apply mixF 21 (by kernel_rfl) (by rfl) (by rfl)
            ·(intro w' hx; go_simp <;> with_reducible rfl)
            simp only [pA, pB, pC, pD]
            apply mixF 22 (by kernel_rfl) (by rfl) (by rfl)
            ·(intro w' hx; go_simp <;> with_reducible rfl)
            simp only [pA, pB, pC, pD]
            apply mixF 23 (by kernel_rfl) (by rfl) (by rfl)
            ·(intro w' hx; go_simp <;> with_reducible rfl)
            simp only [pA, pB, pC, pD]
            apply mixF 24 (by kernel_rfl) (by rfl) (by rfl)
            ·(intro w' hx; go_simp <;> with_reducible rfl)
            simp only [pA, pB, pC, pD]
            apply mixF 25 (by kernel_rfl) (by rfl) (by rfl)
            ·(intro w' hx; go_simp <;> with_reducible rfl)
            simp only [pA, pB, pC, pD]
            apply mixF 26 (by kernel_rfl) (by rfl) (by rfl)
            ·(intro w' hx; go_simp <;> with_reducible rfl)
            simp only [pA, pB, pC, pD]
            refine mixFskip 27 (by kernel_rfl) (by rfl) (by rfl) ?_
            simp only [pA, pB, pC, pD]
            refine mixFskip 28 (by kernel_rfl) (by rfl) (by rfl) ?_
            simp only [pA, pB, pC, pD]
            refine mixFskip 29 (by kernel_rfl) (by rfl) (by rfl) ?_
            simp only [pA, pB, pC, pD]
            refine mixFskip 30 (by kernel_rfl) (by rfl) (by rfl) ?_
            simp only [pA, pB, pC, pD]
            refine mixFskip 31 (by kernel_rfl) (by rfl) (by rfl) ?_
            simp only [pA, pB, pC, pD]
            refine mixFskip 32 (by kernel_rfl) (by rfl) (by rfl) ?_
            simp only [pA, pB, pC, pD]
            refine mixFskip 33 (by kernel_rfl) (by rfl) (by rfl) ?_
            simp only [pA, pB, pC, pD]
            refine mixFskip 34 (by kernel_rfl) (by rfl) (by rfl) ?_
            simp only [pA, pB, pC, pD]
            refine mixFskip 35 (by kernel_rfl) (by rfl) (by rfl) ?_
            simp only [pA, pB, pC, pD]
            apply mixF 36 (by kernel_rfl) (by rfl) (by rfl)
            ·(intro w' hx; go_simp <;> with_reducible rfl)
            simp only [pA, pB, pC, pD]
            apply mixF 37 (by kernel_rfl) (by rfl) (by rfl)
            ·(intro w' hx; go_simp <;> with_reducible rfl)
            simp only [pA, pB, pC, pD]
            refine mixEnd (by kernel_rfl) ?_
            go_wp2_with fail
            go_meet
            exact ⟨rfl, hd⟩
           ·skip
            obtain rfl : fz = j := HFZ.out.trans h1
            rw [h2, Option.getD_some] at b22 hy5
            obtain rfl : b5 = true := HB5.out.trans (by rw [h2]; rfl)
            have hja : j < a := HN.out ▸ hj
            obtain ⟨j0, j1, j2, j3, j4, j5, j6⟩ := sl_facts hja hc (by omega)
            have FJ := (hl.drop_ (k := j) (by omega)).take_ (k := 1) (by omega)
            rw [drop_one hj, if_neg j6] at FJ
            obtain ⟨g2, o2, u2, hA2, _, _, _⟩ := hl.ent_x (i := j) (by omega)
            cases hA2
            rw [Option.map_some, Addr.add_lit] at FJ
            generalize l.getD j ⟨rZero, 0⟩ = xj at b22 hy5 FJ
            clear h1 h2
            refine wp_region_ext 38 [0, 1, 2, 3, 4, 5, 6, 7, 8, 9, 10, 11, 12, 13, 14, 15, 16, 17, 18, 19, 20, 21, 22, 23, 24, 25, 26, 27, 29, 30, 31, 32, 33, 35, 36, 37] false rfl (by kernel_rfl) (by kernel_rfl) ?_
            generalize w6.drew = D at hd b20 b22 hl hy3 hy5 FJ ⊢
            clear hl HB3 HB5
            apply mixF 0 (by kernel_rfl) (by rfl) (by rfl)
            ·(intro w' hx; go_simp <;> with_reducible rfl)
            simp only [pA, pB, pC, pD]
            apply mixF 1 (by kernel_rfl) (by rfl) (by rfl)
            ·(intro w' hx; go_simp <;> with_reducible rfl)
            simp only [pA, pB, pC, pD]
            apply mixF 2 (by kernel_rfl) (by rfl) (by rfl)
            ·(intro w' hx; go_simp <;> with_reducible rfl)
            simp only [pA, pB, pC, pD]
            apply mixF 3 (by kernel_rfl) (by rfl) (by rfl)
            ·(intro w' hx; go_simp <;> with_reducible rfl)
            simp only [pA, pB, pC, pD]
            apply mixF 4 (by kernel_rfl) (by rfl) (by rfl)
            ·(intro w' hx; go_simp <;> with_reducible rfl)
            simp only [pA, pB, pC, pD]
            apply mixF 5 (by kernel_rfl) (by rfl) (by rfl)
            ·(intro w' hx; go_simp <;> with_reducible rfl)
            simp only [pA, pB, pC, pD]
            apply mixF 6 (by kernel_rfl) (by rfl) (by rfl)
            ·(intro w' hx; go_simp <;> with_reducible rfl)
            simp only [pA, pB, pC, pD]
            refine mixFskip 7 (by kernel_rfl) (by rfl) (by rfl) ?_
            simp only [pA, pB, pC, pD]
            refine mixFskip 8 (by kernel_rfl) (by rfl) (by rfl) ?_
            simp only [pA, pB, pC, pD]
            refine mixFskip 9 (by kernel_rfl) (by rfl) (by rfl) ?_
            simp only [pA, pB, pC, pD]
            refine mixFskip 10 (by kernel_rfl) (by rfl) (by rfl) ?_
            simp only [pA, pB, pC, pD]
            refine mixFskip 11 (by kernel_rfl) (by rfl) (by rfl) ?_
            simp only [pA, pB, pC, pD]
            refine mixFskip 12 (by kernel_rfl) (by rfl) (by rfl) ?_
            simp only [pA, pB, pC, pD]
            refine mixFskip 13 (by kernel_rfl) (by rfl) (by rfl) ?_
            simp only [pA, pB, pC, pD]
            refine mixFskip 14 (by kernel_rfl) (by rfl) (by rfl) ?_
            simp only [pA, pB, pC, pD]
            refine mixFskip 15 (by kernel_rfl) (by rfl) (by rfl) ?_
            simp only [pA, pB, pC, pD]
            apply mixF 16 (by kernel_rfl) (by rfl) (by rfl)
            ·(intro w' hx; go_simp <;> with_reducible rfl)
            simp only [pA, pB, pC, pD]
            apply mixF 17 (by kernel_rfl) (by rfl) (by rfl)
            ·(intro w' hx; go_simp <;> with_reducible rfl)
            simp only [pA, pB, pC, pD]
            apply mixF 18 (by kernel_rfl) (by rfl) (by rfl)
            ·(intro w' hx; go_simp <;> with_reducible rfl)
            simp only [pA, pB, pC, pD]
            apply mixF 19 (by kernel_rfl) (by rfl) (by rfl)
            ·(intro w' hx; go_simp <;> with_reducible rfl)
            simp only [pA, pB, pC, pD]
            apply mixF 20 (by kernel_rfl) (by rfl) (by rfl)
            ·(intro w' hx; go_simp <;> with_reducible rfl)
            simp only [pA, pB, pC, pD]
            apply mixF 21 (by kernel_rfl) (by rfl) (by rfl)
            ·(intro w' hx; go_simp <;> with_reducible rfl)
            simp only [pA, pB, pC, pD]
            apply mixF 22 (by kernel_rfl) (by rfl) (by rfl)
            ·(intro w' hx; go_simp <;> with_reducible rfl)
            simp only [pA, pB, pC, pD]
            apply mixF 23 (by kernel_rfl) (by rfl) (by rfl)
            ·(intro w' hx; go_simp <;> with_reducible rfl)
            simp only [pA, pB, pC, pD]
            apply mixF 24 (by kernel_rfl) (by rfl) (by rfl)
            ·(intro w' hx; go_simp <;> with_reducible rfl)
            simp only [pA, pB, pC, pD]
            apply mixF 25 (by kernel_rfl) (by rfl) (by rfl)
            ·(intro w' hx; go_simp <;> with_reducible rfl)
            simp only [pA, pB, pC, pD]
            apply mixF 26 (by kernel_rfl) (by rfl) (by rfl)
            ·(intro w' hx; go_simp <;> with_reducible rfl)
            simp only [pA, pB, pC, pD]
            apply mixF 27 (by kernel_rfl) (by rfl) (by rfl)
            ·(intro w' hx; obtain ⟨x0, x1, x2, x3, x4⟩ := (b22.ext hx).c5; go_simp <;> with_reducible rfl)
            simp only [pA, pB, pC, pD]
            apply mixF 29 (by kernel_rfl) (by rfl) (by rfl)
            ·(intro w' hx; go_simp <;> with_reducible rfl)
            simp only [pA, pB, pC, pD]
            apply mixF 30 (by kernel_rfl) (by rfl) (by rfl)
            ·(intro w' hx; go_simp <;> with_reducible rfl)
            simp only [pA, pB, pC, pD]
            apply mixF 31 (by kernel_rfl) (by rfl) (by rfl)
            ·(intro w' hx; go_simp <;> with_reducible rfl)
            simp only [pA, pB, pC, pD]
            apply mixF 32 (by kernel_rfl) (by rfl) (by rfl)
            ·(intro w' hx; go_simp <;> with_reducible rfl)
            simp only [pA, pB, pC, pD]
            apply mixF 33 (by kernel_rfl) (by rfl) (by rfl)
            ·(intro w' hx; go_simp <;> with_reducible rfl)
            simp only [pA, pB, pC, pD]
            refine mixS 28 (by kernel_rfl) (by kernel_rfl) (by rfl) (by rfl) (fun K hK => ?_)
            go_wp2
            refine hK.out _ _ (ext_alloc _ _) ?_
            clear hK K
            try simp only [pA, pB, pC, pD]
            have R2 := row_one (base := 0) (e := xj) hy5
            generalize hwn : World.alloc _ _ = D3 at R2 ⊢
            have he := ext_st hwn
            clear hwn
            have FJ := FJ.ext he
            have hd := ext_trans hd he
            clear he b22 hy5
            refine mixS 34 (by kernel_rfl) (by kernel_rfl) (by rfl) (by rfl) (fun K hK => ?_)
            go_wp2_with fail
            refine (sameEnts_v R2 FJ).mono ?_
            rintro e11 w11 ⟨rfl, he⟩
            rw [esSame_id]
            refine hK.out _ _ he ?_
            clear hK K R2 FJ
            try simp only [pA, pB, pC, pD]
            have hd := ext_trans hd he
            clear he
            apply mixF 35 (by kernel_rfl) (by rfl) (by rfl)
            ·(intro w' hx; go_simp <;> with_reducible rfl)
            simp only [pA, pB, pC, pD]
            apply mixF 36 (by kernel_rfl) (by rfl) (by rfl)
            ·(intro w' hx; go_simp <;> with_reducible rfl)
            simp only [pA, pB, pC, pD]
            apply mixF 37 (by kernel_rfl) (by rfl) (by rfl)
            ·(intro w' hx; go_simp <;> with_reducible rfl)
            simp only [pA, pB, pC, pD]
            refine mixEnd (by kernel_rfl) ?_
            go_wp2_with fail
            go_meet
            exact ⟨rfl, hd⟩
          ·obtain rfl : lz = i := HLZ.out.trans h1
           rw [h2, Option.getD_some] at b20 hy3
           obtain rfl : b3 = true := HB3.out.trans (by rw [h2]; rfl)
           have hia : i < a := HN.out ▸ hi
           obtain ⟨i0, i1, i2, i3, i4, i5, i6⟩ := sl_facts hia hc (by omega)
           have FI := (hl.drop_ (k := i) (by omega)).take_ (k := 1) (by omega)
           rw [drop_one hi, if_neg i6] at FI
           obtain ⟨g1, o1, u1, hA1, _, _, _⟩ := hl.ent_x (i := i) (by omega)
           cases hA1
           rw [Option.map_some, Addr.add_lit] at FI
           generalize l.getD i ⟨rZero, 0⟩ = xi at b20 hy3 FI
           clear h1 h2
           rcases findI_find (l := l) (key := key) (ver := ver) with ⟨h1, h2⟩ | ⟨j, hj, h1, h2⟩
           ·skip
            obtain rfl : fz = -1 := HFZ.out.trans h1
            rw [h2] at b22 hy5
            obtain rfl : b5 = false := HB5.out.trans (by rw [h2]; rfl)
            clear h1 h2
            refine wp_region_ext 38 [0, 1, 2, 3, 4, 5, 6, 7, 9, 10, 11, 12, 13, 15, 16, 17, 18, 19, 20, 21, 22, 23, 24, 25, 26, 27, 28, 29, 30, 31, 32, 33, 34, 35, 36, 37] false rfl (by kernel_rfl) (by kernel_rfl) ?_
            generalize w6.drew = D at hd b20 b22 hl hy3 hy5 FI ⊢
            clear hl HB3 HB5
            apply mixF 0 (by kernel_rfl) (by rfl) (by rfl)
            ·(intro w' hx; go_simp <;> with_reducible rfl)
            simp only [pA, pB, pC, pD]
            apply mixF 1 (by kernel_rfl) (by rfl) (by rfl)
            ·(intro w' hx; go_simp <;> with_reducible rfl)
            simp only [pA, pB, pC, pD]
            apply mixF 2 (by kernel_rfl) (by rfl) (by rfl)
            ·(intro w' hx; go_simp <;> with_reducible rfl)
            simp only [pA, pB, pC, pD]
            apply mixF 3 (by kernel_rfl) (by rfl) (by rfl)
            ·(intro w' hx; go_simp <;> with_reducible rfl)
            simp only [pA, pB, pC, pD]
            apply mixF 4 (by kernel_rfl) (by rfl) (by rfl)
            ·(intro w' hx; go_simp <;> with_reducible rfl)
            simp only [pA, pB, pC, pD]
            apply mixF 5 (by kernel_rfl) (by rfl) (by rfl)
            ·(intro w' hx; go_simp <;> with_reducible rfl)
            simp only [pA, pB, pC, pD]
            apply mixF 6 (by kernel_rfl) (by rfl) (by rfl)
            ·(intro w' hx; go_simp <;> with_reducible rfl)
            simp only [pA, pB, pC, pD]
            apply mixF 7 (by kernel_rfl) (by rfl) (by rfl)
            ·(intro w' hx; obtain ⟨x0, x1, x2, x3, x4⟩ := (b20.ext hx).c5; go_simp <;> with_reducible rfl)
            simp only [pA, pB, pC, pD]
            apply mixF 9 (by kernel_rfl) (by rfl) (by rfl)
            ·(intro w' hx; go_simp <;> with_reducible rfl)
            simp only [pA, pB, pC, pD]
            apply mixF 10 (by kernel_rfl) (by rfl) (by rfl)
            ·(intro w' hx; go_simp <;> with_reducible rfl)
            simp only [pA, pB, pC, pD]
            apply mixF 11 (by kernel_rfl) (by rfl) (by rfl)
            ·(intro w' hx; go_simp <;> with_reducible rfl)
            simp only [pA, pB, pC, pD]
            apply mixF 12 (by kernel_rfl) (by rfl) (by rfl)
            ·(intro w' hx; go_simp <;> with_reducible rfl)
            simp only [pA, pB, pC, pD]
            apply mixF 13 (by kernel_rfl) (by rfl) (by rfl)
            ·(intro w' hx; go_simp <;> with_reducible rfl)
            simp only [pA, pB, pC, pD]
            refine mixS 8 (by kernel_rfl) (by kernel_rfl) (by rfl) (by rfl) (fun K hK => ?_)
            go_wp2
            refine hK.out _ _ (ext_alloc _ _) ?_
            clear hK K
            try simp only [pA, pB, pC, pD]
            have R1 := row_one (base := 0) (e := xi) hy3
            generalize hwn : World.alloc D _ = D2 at R1 ⊢
            have he : Ext D D2 := by rw [← hwn]; exact ext_alloc _ _
            clear hwn
            have FI := FI.ext he
            have hd := ext_trans hd he
            have b22 := b22.ext he
            try (have FJ := FJ.ext he)
            have hy5 := hy5.ext he
            clear he b20 hy3
            refine mixS 14 (by kernel_rfl) (by kernel_rfl) (by rfl) (by rfl) (fun K hK => ?_)
            go_wp2_with fail
            refine (sameEnts_v R1 FI).mono ?_
            rintro e10 w10 ⟨rfl, he⟩
            rw [esSame_id]
            refine hK.out _ _ he ?_
            clear hK K R1 FI
            try simp only [pA, pB, pC, pD]
            have hd := ext_trans hd he
            have b22 := b22.ext he
            try (have FJ := FJ.ext he)
            have hy5 := hy5.ext he
            clear he
            apply mixF 15 (by kernel_rfl) (by rfl) (by rfl)
            ·(intro w' hx; go_simp <;> with_reducible rfl)
            simp only [pA, pB, pC, pD]
            apply mixF 16 (by kernel_rfl) (by rfl) (by rfl)
            ·(intro w' hx; go_simp <;> with_reducible rfl)
            simp only [pA, pB, pC, pD]
            apply mixF 17 (by kernel_rfl) (by rfl) (by rfl)
            ·(intro w' hx; go_simp <;> with_reducible rfl)
            simp only [pA, pB, pC, pD]
            apply mixF 18 (by kernel_rfl) (by rfl) (by rfl)
            ·(intro w' hx; go_simp <;> with_reducible rfl)
            simp only [pA, pB, pC, pD]
            apply mixF 19 (by kernel_rfl) (by rfl) (by rfl)
            ·(intro w' hx; go_simp <;> with_reducible rfl)
            simp only [pA, pB, pC, pD]
            apply mixF 20 (by kernel_rfl) (by rfl) (by rfl)
            ·(intro w' hx; go_simp <;> with_reducible rfl)
            simp only [pA, pB, pC, pD]
            apply mixF 21 (by kernel_rfl) (by rfl) (by rfl)
            ·(intro w' hx; go_simp <;> with_reducible rfl)
            simp only [pA, pB, pC, pD]
            apply mixF 22 (by kernel_rfl) (by rfl) (by rfl)
            ·(intro w' hx; go_simp <;> with_reducible rfl)
            simp only [pA, pB, pC, pD]
            apply mixF 23 (by kernel_rfl) (by rfl) (by rfl)
            ·(intro w' hx; go_simp <;> with_reducible rfl)
            simp only [pA, pB, pC, pD]
            apply mixF 24 (by kernel_rfl) (by rfl) (by rfl)
            ·(intro w' hx; go_simp <;> with_reducible rfl)
            simp only [pA, pB, pC, pD]
            apply mixF 25 (by kernel_rfl) (by rfl) (by rfl)
            ·(intro w' hx; go_simp <;> with_reducible rfl)
            simp only [pA, pB, pC, pD]
            apply mixF 26 (by kernel_rfl) (by rfl) (by rfl)
            ·(intro w' hx; go_simp <;> with_reducible rfl)
            simp only [pA, pB, pC, pD]
            refine mixFskip 27 (by kernel_rfl) (by rfl) (by rfl) ?_
            simp only [pA, pB, pC, pD]
            refine mixFskip 28 (by kernel_rfl) (by rfl) (by rfl) ?_
            simp only [pA, pB, pC, pD]
            refine mixFskip 29 (by kernel_rfl) (by rfl) (by rfl) ?_
            simp only [pA, pB, pC, pD]
            refine mixFskip 30 (by kernel_rfl) (by rfl) (by rfl) ?_
            simp only [pA, pB, pC, pD]
            refine mixFskip 31 (by kernel_rfl) (by rfl) (by rfl) ?_
            simp only [pA, pB, pC, pD]
            refine mixFskip 32 (by kernel_rfl) (by rfl) (by rfl) ?_
            simp only [pA, pB, pC, pD]
            refine mixFskip 33 (by kernel_rfl) (by rfl) (by rfl) ?_
            simp only [pA, pB, pC, pD]
            refine mixFskip 34 (by kernel_rfl) (by rfl) (by rfl) ?_
            simp only [pA, pB, pC, pD]
            refine mixFskip 35 (by kernel_rfl) (by rfl) (by rfl) ?_
            simp only [pA, pB, pC, pD]
            apply mixF 36 (by kernel_rfl) (by rfl) (by rfl)
            ·(intro w' hx; go_simp <;> with_reducible rfl)
            simp only [pA, pB, pC, pD]
            apply mixF 37 (by kernel_rfl) (by rfl) (by rfl)
            ·(intro w' hx; go_simp <;> with_reducible rfl)
            simp only [pA, pB, pC, pD]
            refine mixEnd (by kernel_rfl) ?_
            go_wp2_with fail
            go_meet
            exact ⟨rfl, hd⟩
           ·skip
            obtain rfl : fz = j := HFZ.out.trans h1
            rw [h2, Option.getD_some] at b22 hy5
            obtain rfl : b5 = true := HB5.out.trans (by rw [h2]; rfl)
            have hja : j < a := HN.out ▸ hj
            obtain ⟨j0, j1, j2, j3, j4, j5, j6⟩ := sl_facts hja hc (by omega)
            have FJ := (hl.drop_ (k := j) (by omega)).take_ (k := 1) (by omega)
            rw [drop_one hj, if_neg j6] at FJ
            obtain ⟨g2, o2, u2, hA2, _, _, _⟩ := hl.ent_x (i := j) (by omega)
            cases hA2
            rw [Option.map_some, Addr.add_lit] at FJ
            generalize l.getD j ⟨rZero, 0⟩ = xj at b22 hy5 FJ
            clear h1 h2
            refine wp_region_ext 38 [0, 1, 2, 3, 4, 5, 6, 7, 9, 10, 11, 12, 13, 15, 16, 17, 18, 19, 20, 21, 22, 23, 24, 25, 26, 27, 29, 30, 31, 32, 33, 35, 36, 37] false rfl (by kernel_rfl) (by kernel_rfl) ?_
            generalize w6.drew = D at hd b20 b22 hl hy3 hy5 FI FJ ⊢
            clear hl HB3 HB5
            apply mixF 0 (by kernel_rfl) (by rfl) (by rfl)
            ·(intro w' hx; go_simp <;> with_reducible rfl)
            simp only [pA, pB, pC, pD]
            apply mixF 1 (by kernel_rfl) (by rfl) (by rfl)
            ·(intro w' hx; go_simp <;> with_reducible rfl)
            simp only [pA, pB, pC, pD]
            apply mixF 2 (by kernel_rfl) (by rfl) (by rfl)
            ·(intro w' hx; go_simp <;> with_reducible rfl)
            simp only [pA, pB, pC, pD]
            apply mixF 3 (by kernel_rfl) (by rfl) (by rfl)
            ·(intro w' hx; go_simp <;> with_reducible rfl)
            simp only [pA, pB, pC, pD]
            apply mixF 4 (by kernel_rfl) (by rfl) (by rfl)
            ·(intro w' hx; go_simp <;> with_reducible rfl)
            simp only [pA, pB, pC, pD]
            apply mixF 5 (by kernel_rfl) (by rfl) (by rfl)
            ·(intro w' hx; go_simp <;> with_reducible rfl)
            simp only [pA, pB, pC, pD]
            apply mixF 6 (by kernel_rfl) (by rfl) (by rfl)
            ·(intro w' hx; go_simp <;> with_reducible rfl)
            simp only [pA, pB, pC, pD]
            apply mixF 7 (by kernel_rfl) (by rfl) (by rfl)
            ·(intro w' hx; obtain ⟨x0, x1, x2, x3, x4⟩ := (b20.ext hx).c5; go_simp <;> with_reducible rfl)
            simp only [pA, pB, pC, pD]
            apply mixF 9 (by kernel_rfl) (by rfl) (by rfl)
            ·(intro w' hx; go_simp <;> with_reducible rfl)
            simp only [pA, pB, pC, pD]
            apply mixF 10 (by kernel_rfl) (by rfl) (by rfl)
            ·(intro w' hx; go_simp <;> with_reducible rfl)
            simp only [pA, pB, pC, pD]
            apply mixF 11 (by kernel_rfl) (by rfl) (by rfl)
            ·(intro w' hx; go_simp <;> with_reducible rfl)
            simp only [pA, pB, pC, pD]
            apply mixF 12 (by kernel_rfl) (by rfl) (by rfl)
            ·(intro w' hx; go_simp <;> with_reducible rfl)
            simp only [pA, pB, pC, pD]
            apply mixF 13 (by kernel_rfl) (by rfl) (by rfl)
            ·(intro w' hx; go_simp <;> with_reducible rfl)
            simp only [pA, pB, pC, pD]
            refine mixS 8 (by kernel_rfl) (by kernel_rfl) (by rfl) (by rfl) (fun K hK => ?_)
            go_wp2
            refine hK.out _ _ (ext_alloc _ _) ?_
            clear hK K
            try simp only [pA, pB, pC, pD]
            have R1 := row_one (base := 0) (e := xi) hy3
            generalize hwn : World.alloc D _ = D2 at R1 ⊢
            have he : Ext D D2 := by rw [← hwn]; exact ext_alloc _ _
            clear hwn
            have FI := FI.ext he
            have hd := ext_trans hd he
            have b22 := b22.ext he
            try (have FJ := FJ.ext he)
            have hy5 := hy5.ext he
            clear he b20 hy3
            refine mixS 14 (by kernel_rfl) (by kernel_rfl) (by rfl) (by rfl) (fun K hK => ?_)
            go_wp2_with fail
            refine (sameEnts_v R1 FI).mono ?_
            rintro e10 w10 ⟨rfl, he⟩
            rw [esSame_id]
            refine hK.out _ _ he ?_
            clear hK K R1 FI
            try simp only [pA, pB, pC, pD]
            have hd := ext_trans hd he
            have b22 := b22.ext he
            try (have FJ := FJ.ext he)
            have hy5 := hy5.ext he
            clear he
            apply mixF 15 (by kernel_rfl) (by rfl) (by rfl)
            ·(intro w' hx; go_simp <;> with_reducible rfl)
            simp only [pA, pB, pC, pD]
            apply mixF 16 (by kernel_rfl) (by rfl) (by rfl)
            ·(intro w' hx; go_simp <;> with_reducible rfl)
            simp only [pA, pB, pC, pD]
            apply mixF 17 (by kernel_rfl) (by rfl) (by rfl)
            ·(intro w' hx; go_simp <;> with_reducible rfl)
            simp only [pA, pB, pC, pD]
            apply mixF 18 (by kernel_rfl) (by rfl) (by rfl)
            ·(intro w' hx; go_simp <;> with_reducible rfl)
            simp only [pA, pB, pC, pD]
            apply mixF 19 (by kernel_rfl) (by rfl) (by rfl)
            ·(intro w' hx; go_simp <;> with_reducible rfl)
            simp only [pA, pB, pC, pD]
            apply mixF 20 (by kernel_rfl) (by rfl) (by rfl)
            ·(intro w' hx; go_simp <;> with_reducible rfl)
            simp only [pA, pB, pC, pD]
            apply mixF 21 (by kernel_rfl) (by rfl) (by rfl)
            ·(intro w' hx; go_simp <;> with_reducible rfl)
            simp only [pA, pB, pC, pD]
            apply mixF 22 (by kernel_rfl) (by rfl) (by rfl)
            ·(intro w' hx; go_simp <;> with_reducible rfl)
            simp only [pA, pB, pC, pD]
            apply mixF 23 (by kernel_rfl) (by rfl) (by rfl)
            ·(intro w' hx; go_simp <;> with_reducible rfl)
            simp only [pA, pB, pC, pD]
            apply mixF 24 (by kernel_rfl) (by rfl) (by rfl)
            ·(intro w' hx; go_simp <;> with_reducible rfl)
            simp only [pA, pB, pC, pD]
            apply mixF 25 (by kernel_rfl) (by rfl) (by rfl)
            ·(intro w' hx; go_simp <;> with_reducible rfl)
            simp only [pA, pB, pC, pD]
            apply mixF 26 (by kernel_rfl) (by rfl) (by rfl)
            ·(intro w' hx; go_simp <;> with_reducible rfl)
            simp only [pA, pB, pC, pD]
            apply mixF 27 (by kernel_rfl) (by rfl) (by rfl)
            ·(intro w' hx; obtain ⟨x0, x1, x2, x3, x4⟩ := (b22.ext hx).c5; go_simp <;> with_reducible rfl)
            simp only [pA, pB, pC, pD]
            apply mixF 29 (by kernel_rfl) (by rfl) (by rfl)
            ·(intro w' hx; go_simp <;> with_reducible rfl)
            simp only [pA, pB, pC, pD]
            apply mixF 30 (by kernel_rfl) (by rfl) (by rfl)
            ·(intro w' hx; go_simp <;> with_reducible rfl)
            simp only [pA, pB, pC, pD]
            apply mixF 31 (by kernel_rfl) (by rfl) (by rfl)
            ·(intro w' hx; go_simp <;> with_reducible rfl)
            simp only [pA, pB, pC, pD]
            apply mixF 32 (by kernel_rfl) (by rfl) (by rfl)
            ·(intro w' hx; go_simp <;> with_reducible rfl)
            simp only [pA, pB, pC, pD]
            apply mixF 33 (by kernel_rfl) (by rfl) (by rfl)
            ·(intro w' hx; go_simp <;> with_reducible rfl)
            simp only [pA, pB, pC, pD]
            refine mixS 28 (by kernel_rfl) (by kernel_rfl) (by rfl) (by rfl) (fun K hK => ?_)
            go_wp2
            refine hK.out _ _ (ext_alloc _ _) ?_
            clear hK K
            try simp only [pA, pB, pC, pD]
            have R2 := row_one (base := 0) (e := xj) hy5
            generalize hwn : World.alloc _ _ = D3 at R2 ⊢
            have he := ext_st hwn
            clear hwn
            have FJ := FJ.ext he
            have hd := ext_trans hd he
            clear he b22 hy5
            refine mixS 34 (by kernel_rfl) (by kernel_rfl) (by rfl) (by rfl) (fun K hK => ?_)
            go_wp2_with fail
            refine (sameEnts_v R2 FJ).mono ?_
            rintro e11 w11 ⟨rfl, he⟩
            rw [esSame_id]
            refine hK.out _ _ he ?_
            clear hK K R2 FJ
            try simp only [pA, pB, pC, pD]
            have hd := ext_trans hd he
            clear he
            apply mixF 35 (by kernel_rfl) (by rfl) (by rfl)
            ·(intro w' hx; go_simp <;> with_reducible rfl)
            simp only [pA, pB, pC, pD]
            apply mixF 36 (by kernel_rfl) (by rfl) (by rfl)
            ·(intro w' hx; go_simp <;> with_reducible rfl)
            simp only [pA, pB, pC, pD]
            apply mixF 37 (by kernel_rfl) (by rfl) (by rfl)
            ·(intro w' hx; go_simp <;> with_reducible rfl)
            simp only [pA, pB, pC, pD]
            refine mixEnd (by kernel_rfl) ?_
            go_wp2_with fail
            go_meet
            exact ⟨rfl, hd⟩
         case rest =>
          obtain ⟨rfl, hd⟩ := hcut
          clear hy3 hy5 b20 b22 HB3 HB5
          have hx := ext_trans hx hd
          have hl := hl.ext hd
          have hye := hye.ext hd
          have rR := rR.ext hd
          have b8 := b8.ext hd
          have hset := hset.ext hd
          clear hd
          have look := hset.look hep
          have hll4 : l.length ≤ 4000 := by omega
          cases hq : iUsed l e.pair with
          | true =>
           rw [hq] at look
           clear hq
           obtain ⟨b8_0, b8_1, b8_2, b8_3, b8_4⟩ := b8.c5
           have b8_z := b8.free
           have b8_l := b8.lt
           go_upto_region 29 with (fail)
           clear look hset hep
           try clear b8_0 b8_1 b8_2 b8_3 b8_4 b8_z b8_l
           go_wp2_with fail
           refine (ixFree_v (p := pairs) hl hp2).mono ?_
           rintro e8 w8 ⟨rfl, he⟩
           have hx := ext_trans hx he
           have hl := hl.ext he
           have rR := rR.ext he
           have b8 := b8.ext he
           clear he
           have qf : (iFree l pairs == iFree l pairs) = true := by simp
           go_wp2_with fail
           refine (ixOwn_v hl (by omega) HS.out).mono ?_
           rintro e9 w9 ⟨v9, rfl, o9, he⟩
           have hx := ext_trans hx he
           have hl := hl.ext he
           have rR := rR.ext he
           have b8 := b8.ext he
           clear he
           clear qf
           have r9 := o9.row (T := [74]) (base := 0) (by decide) (Nat.le_refl _)
           clear o9
           obtain ⟨A9, n9, c9, rfl, _, _, _⟩ := r9.form
           go_wp2_with fail
           refine (sameEnts_v r9 hl).mono ?_
           rintro e10 w10 ⟨rfl, he⟩
           have hx := ext_trans hx he
           have hl := hl.ext he
           have rR := rR.ext he
           have b8 := b8.ext he
           clear he
           rw [esSame_id]
           clear r9
           obtain ⟨b8_0, b8_1, b8_2, b8_3, b8_4⟩ := b8.c5
           have b8_z := b8.free
           have b8_l := b8.lt
           go_wp2_with fail
           refine (ixDrop_v (p := e.pair) hl (by omega) HS.out).mono ?_
           rintro e11 w11 ⟨v11, rfl, o11, he⟩
           try clear b8_0 b8_1 b8_2 b8_3 b8_4 b8_z b8_l
           have hx := ext_trans hx he
           have rR := rR.ext he
           have b8 := b8.ext he
           clear he
           have r11 := o11.row (T := [74]) (base := 0) (by decide) (Nat.le_refl _)
           clear o11
           obtain ⟨A11, n11, c11, rfl, _, _, _⟩ := r11.form
           go_wp2_with fail
           refine (sameEnts_v r11 rR).mono ?_
           rintro e12 w12 ⟨rfl, he⟩
           have hx := ext_trans hx he
           clear he
           rw [esSame_id]
           go_wp2_with fail
           go_ret
           exact ⟨rfl, hx⟩
          | false =>
           rw [hq] at look
           have HQ := Lib.hid hq
           clear hq
           obtain ⟨b8_0, b8_1, b8_2, b8_3, b8_4⟩ := b8.c5
           have b8_z := b8.free
           have b8_l := b8.lt
           go_wp2_with fail
           refine (refWrong_v (r := e.rcd) ⟨_, rfl, hye⟩).mono ?_
           rintro e7 w7 ⟨rfl, he⟩
           try clear b8_0 b8_1 b8_2 b8_3 b8_4 b8_z b8_l
           have hx := ext_trans hx he
           have hl := hl.ext he
           have hye := hye.ext he
           have rR := rR.ext he
           have b8 := b8.ext he
           clear he
           clear look hset hep
           cases hqw : (rWrong e.rcd != 0) with
           | true =>
            go_upto_region 29 with (fail)
            clear hqw
            go_wp2_with fail
            refine (ixFree_v (p := pairs) hl hp2).mono ?_
            rintro e8 w8 ⟨rfl, he⟩
            have hx := ext_trans hx he
            have hl := hl.ext he
            have rR := rR.ext he
            have b8 := b8.ext he
            clear he
            have qf : (iFree l pairs == iFree l pairs) = true := by simp
            go_wp2_with fail
            refine (ixOwn_v hl (by omega) HS.out).mono ?_
            rintro e9 w9 ⟨v9, rfl, o9, he⟩
            have hx := ext_trans hx he
            have hl := hl.ext he
            have rR := rR.ext he
            have b8 := b8.ext he
            clear he
            clear qf
            have r9 := o9.row (T := [74]) (base := 0) (by decide) (Nat.le_refl _)
            clear o9
            obtain ⟨A9, n9, c9, rfl, _, _, _⟩ := r9.form
            go_wp2_with fail
            refine (sameEnts_v r9 hl).mono ?_
            rintro e10 w10 ⟨rfl, he⟩
            have hx := ext_trans hx he
            have hl := hl.ext he
            have rR := rR.ext he
            have b8 := b8.ext he
            clear he
            rw [esSame_id]
            clear r9
            obtain ⟨b8_0, b8_1, b8_2, b8_3, b8_4⟩ := b8.c5
            have b8_z := b8.free
            have b8_l := b8.lt
            go_wp2_with fail
            refine (ixDrop_v (p := e.pair) hl (by omega) HS.out).mono ?_
            rintro e11 w11 ⟨v11, rfl, o11, he⟩
            try clear b8_0 b8_1 b8_2 b8_3 b8_4 b8_z b8_l
            have hx := ext_trans hx he
            have rR := rR.ext he
            have b8 := b8.ext he
            clear he
            have r11 := o11.row (T := [74]) (base := 0) (by decide) (Nat.le_refl _)
            clear o11
            obtain ⟨A11, n11, c11, rfl, _, _, _⟩ := r11.form
            go_wp2_with fail
            refine (sameEnts_v r11 rR).mono ?_
            rintro e12 w12 ⟨rfl, he⟩
            have hx := ext_trans hx he
            clear he
            rw [esSame_id]
            go_wp2_with fail
            go_ret
            exact ⟨rfl, hx⟩
           | false =>
            have HW := Lib.hid (show rWrong e.rcd = 0 by simpa using hqw)
            go_upto_region 30 with (fail)
            clear hqw
            have hd : Ext w7 w7.drew := (Below.refl _ _).drew
            have hx := ext_trans hx hd
            have hl := hl.ext hd
            have hye := hye.ext hd
            have rR := rR.ext hd
            have b8 := b8.ext hd
            clear hd
            refine wp_region_ext 29 [0, 1, 3, 4, 5, 6, 8, 10, 11, 12, 13, 14, 16, 18, 19, 20, 21, 23, 24, 27, 28] false rfl (by kernel_rfl) (by kernel_rfl) ?_
            generalize w7.drew = D at hx hl hye rR b8 ⊢
            apply mixF 0 (by kernel_rfl) (by rfl) (by rfl)
            ·(intro w' hx; go_simp <;> with_reducible rfl)
            simp only [pA, pB, pC, pD]
            apply mixF 1 (by kernel_rfl) (by rfl) (by rfl)
            ·(intro w' hx; go_simp <;> with_reducible rfl)
            simp only [pA, pB, pC, pD]
            apply mixF 3 (by kernel_rfl) (by rfl) (by rfl)
            ·(intro w' hx; go_simp <;> with_reducible rfl)
            simp only [pA, pB, pC, pD]
            refine mixS 2 (by kernel_rfl) (by kernel_rfl) (by rfl) (by rfl) (fun K hK => ?_)
            go_wp2_with (go_at_call 74; refine (ixFree_v (p := pairs) hl hp2).mono ?_; rintro e w8 ⟨rfl, he⟩)
            refine hK.out _ _ (he) ?_
            clear hK K
            try simp only [pA, pB, pC, pD]
            have hx := ext_trans hx he
            have hl := hl.ext he
            have hye := hye.ext he
            have rR := rR.ext he
            have b8 := b8.ext he
            clear he
            have qf : (iFree l pairs == iFree l pairs) = true := by simp
            apply mixF 4 (by kernel_rfl) (by rfl) (by rfl)
            ·(intro w' hx; go_simp <;> with_reducible rfl)
            simp only [pA, pB, pC, pD]
            apply mixF 5 (by kernel_rfl) (by rfl) (by rfl)
            ·(intro w' hx; go_simp <;> with_reducible rfl)
            simp only [pA, pB, pC, pD]
            apply mixF 6 (by kernel_rfl) (by rfl) (by rfl)
            ·(intro w' hx; go_simp <;> with_reducible rfl)
            simp only [pA, pB, pC, pD]
            apply mixF 8 (by kernel_rfl) (by rfl) (by rfl)
            ·(intro w' hx; go_simp <;> with_reducible rfl)
            simp only [pA, pB, pC, pD]
            clear qf
            refine mixS 7 (by kernel_rfl) (by kernel_rfl) (by rfl) (by rfl) (fun K hK => ?_)
            go_wp2_with (go_at_call 75; refine (ixOwn_v hl (by omega) HS.out).mono ?_; rintro e w9 ⟨v9, rfl, o9, he⟩)
            refine hK.out _ _ (he) ?_
            clear hK K
            try simp only [pA, pB, pC, pD]
            have hx := ext_trans hx he
            have hl := hl.ext he
            have hye := hye.ext he
            have rR := rR.ext he
            have b8 := b8.ext he
            clear he
            have r9 := o9.row (T := [74]) (base := 0) (by decide) (Nat.le_refl _)
            clear o9
            refine mixS 9 (by kernel_rfl) (by kernel_rfl) (by rfl) (by rfl) (fun K hK => ?_)
            go_wp2_with (go_at_call 68; refine (sameEnts_v r9 hl).mono ?_; rintro e w10 ⟨rfl, he⟩)
            refine hK.out _ _ (he) ?_
            clear hK K
            try simp only [pA, pB, pC, pD]
            rw [esSame_id]
            have hx := ext_trans hx he
            have hl := hl.ext he
            have hye := hye.ext he
            have rR := rR.ext he
            have b8 := b8.ext he
            clear he r9
            apply mixF 10 (by kernel_rfl) (by rfl) (by rfl)
            ·(intro w' hx; go_simp <;> with_reducible rfl)
            simp only [pA, pB, pC, pD]
            apply mixF 11 (by kernel_rfl) (by rfl) (by rfl)
            ·(intro w' hx; go_simp <;> with_reducible rfl)
            simp only [pA, pB, pC, pD]
            apply mixF 12 (by kernel_rfl) (by rfl) (by rfl)
            ·(intro w' hx; go_simp <;> with_reducible rfl)
            simp only [pA, pB, pC, pD]
            apply mixF 13 (by kernel_rfl) (by rfl) (by rfl)
            ·(intro w' hx; go_simp <;> with_reducible rfl)
            simp only [pA, pB, pC, pD]
            apply mixF 14 (by kernel_rfl) (by rfl) (by rfl)
            ·(intro w' hx; obtain ⟨x0, x1, x2, x3, x4⟩ := (b8.ext hx).c5; go_simp <;> with_reducible rfl)
            simp only [pA, pB, pC, pD]
            apply mixF 16 (by kernel_rfl) (by rfl) (by rfl)
            ·(intro w' hx; obtain ⟨x0, x1, x2, x3, x4⟩ := (b8.ext hx).c5; go_simp <;> with_reducible rfl)
            simp only [pA, pB, pC, pD]
            refine mixS 15 (by kernel_rfl) (by kernel_rfl) (by rfl) (by rfl) (fun K hK => ?_)
            go_wp2_with (go_at_call 76; refine (ixDrop_v (p := e.pair) hl (by omega) HS.out).mono ?_; rintro e w11 ⟨v11, rfl, o11, he⟩)
            refine hK.out _ _ (he) ?_
            clear hK K
            try simp only [pA, pB, pC, pD]
            have hx := ext_trans hx he
            have hl := hl.ext he
            have hye := hye.ext he
            have rR := rR.ext he
            have b8 := b8.ext he
            clear he
            have r11 := o11.row (T := [74]) (base := 0) (by decide) (Nat.le_refl _)
            clear o11
            refine mixS 17 (by kernel_rfl) (by kernel_rfl) (by rfl) (by rfl) (fun K hK => ?_)
            go_wp2_with (go_at_call 68; refine (sameEnts_v r11 rR).mono ?_; rintro e w12 ⟨rfl, he⟩)
            refine hK.out _ _ (he) ?_
            clear hK K
            try simp only [pA, pB, pC, pD]
            rw [esSame_id]
            have hx := ext_trans hx he
            have hl := hl.ext he
            have hye := hye.ext he
            have b8 := b8.ext he
            clear he r11 rR
            apply mixF 18 (by kernel_rfl) (by rfl) (by rfl)
            ·(intro w' hx; go_simp <;> with_reducible rfl)
            simp only [pA, pB, pC, pD]
            apply mixF 19 (by kernel_rfl) (by rfl) (by rfl)
            ·(intro w' hx; go_simp <;> with_reducible rfl)
            simp only [pA, pB, pC, pD]
            apply mixF 20 (by kernel_rfl) (by rfl) (by rfl)
            ·(intro w' hx; go_simp <;> with_reducible rfl)
            simp only [pA, pB, pC, pD]
            apply mixF 21 (by kernel_rfl) (by rfl) (by rfl)
            ·(intro w' hx; obtain ⟨x0, x1, x2, x3, x4⟩ := (b8.ext hx).c5; go_simp <;> with_reducible rfl)
            simp only [pA, pB, pC, pD]
            apply mixF 23 (by kernel_rfl) (by rfl) (by rfl)
            ·(intro w' hx; obtain ⟨x0, x1, x2, x3, x4⟩ := (b8.ext hx).c5; go_simp <;> with_reducible rfl)
            simp only [pA, pB, pC, pD]
            apply mixF 24 (by kernel_rfl) (by rfl) (by rfl)
            ·(intro w' hx; obtain ⟨x0, x1, x2, x3, x4⟩ := (b8.ext hx).c5; go_simp <;> with_reducible rfl)
            simp only [pA, pB, pC, pD]
            have hse : e.rcd.data.length ≤ 4096 := by have := (rWrong_zero' HW.out).1; omega
            refine mixS 22 (by kernel_rfl) (by kernel_rfl) (by rfl) (by rfl) (fun K hK => ?_)
            go_wp2_with (go_at_call 77; refine (ixAdd_v (e := e) hl hll4 HS.out ⟨_, rfl, hye⟩ hse).mono ?_; rintro e w13 ⟨v13, l13, rfl, hp13, hs13, o13, he⟩)
            refine hK.out _ _ (he) ?_
            clear hK K
            try simp only [pA, pB, pC, pD]
            have hx := ext_trans hx he
            have hl := hl.ext he
            have hye := hye.ext he
            have b8 := b8.ext he
            clear he
            have hno : ∀ x ∈ l, x.pair ≠ e.pair := fun x hx1 hx2 => by
             have := (iUsed_iff l e.pair).2 ⟨x, hx1, hx2⟩
             rw [HQ.out] at this
             exact absurd this (by simp)
            have hpp : (l ++ [e]).Pairwise fun a b => a.pair ≠ b.pair := by
             rw [List.pairwise_append]
             exact ⟨HR.out.2.2, List.pairwise_singleton _ _, fun a ha b hb => by rw [List.mem_singleton.1 hb]; exact hno a ha⟩
            obtain rfl : l13 = iIns l e := ins_unique hp13 HR.out.2.1 hno (sorted_strict hs13 (perm_pairs hp13 hpp))
            clear hp13 hs13 hpp hno
            have r13 := o13.row (T := [74]) (base := 0) (by decide) (Nat.le_refl _)
            clear o13
            have hz13 := hx.size
            refine mixS 25 (by kernel_rfl) (by kernel_rfl) (by rfl) (by rfl) (fun K hK => ?_)
            go_wp2_with (go_at_call 78; refine (refInsert_v (e := e) hl (by omega) hx.size ⟨_, rfl, hye⟩).mono ?_; rintro e w14 ⟨v14, rfl, o14, he⟩)
            refine hK.out _ _ (he) ?_
            clear hK K
            try simp only [pA, pB, pC, pD]
            have hx := ext_trans hx he
            have hl := hl.ext he
            have r13 := r13.ext he
            have r14 := o14.row (T := [74]) (by decide) hz13
            clear he o14
            refine mixS 26 (by kernel_rfl) (by kernel_rfl) (by rfl) (by rfl) (fun K hK => ?_)
            go_wp2_with (go_at_call 68; refine (sameEnts_v r13 r14).mono ?_; rintro e w15 ⟨rfl, he⟩)
            refine hK.out _ _ (he) ?_
            clear hK K
            try simp only [pA, pB, pC, pD]
            rw [esSame_id]
            have hx := ext_trans hx he
            apply mixF 27 (by kernel_rfl) (by rfl) (by rfl)
            ·(intro w' hx; go_simp <;> with_reducible rfl)
            simp only [pA, pB, pC, pD]
            apply mixF 28 (by kernel_rfl) (by rfl) (by rfl)
            ·(intro w' hx; go_simp <;> with_reducible rfl)
            simp only [pA, pB, pC, pD]
            refine mixEnd (by kernel_rfl) ?_
            go_wp2_with fail
            go_ret
            exact ⟨rfl, hx⟩
end Go.Proofs.Ytpidjkadpnjahaa
