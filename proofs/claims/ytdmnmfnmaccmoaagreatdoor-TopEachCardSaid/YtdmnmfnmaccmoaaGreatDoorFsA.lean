/- Texts laid together: words, plain laws and walks of the program's functions (FsA). -/
import Derived.Test.YtdmnmfnmaccmoaaGreatDoorIt1
import Derived.Deep.Cut
import Derived.Deep.CutRange
/- Walks: fsck.Twice. -/
namespace Go.Proofs.YtdmnmfnmaccmoaaGreatDoor
open Go Go.RowKit
theorem OwnRow.mset {α : Type} {E : El α} {w w' : World} {rb base b : Nat} {v : Value} {l : List α} {S : Int → Bool} {n : Nat} (h : OwnRow E w rb base v l) (hS : OwnSet w b n S) (hg : w.grownBy w' (some b)) (hb : b < rb) (hbb : base ≤ b) : OwnRow E w' rb base v l := by
 obtain ⟨D, ⟨es, clock, he, _⟩, _⟩ := hS
 have hk : Kept [] base w w' := Kept.grown hg fun g e => by
  cases e
  exact ⟨hbb, fun cur t _ h => by rw [h] at he; cases he⟩
 obtain ⟨css, hc, hl, ho⟩ := h
 refine ⟨css, hc.mono fun _ _ h => h.kept hk, hl, ?_⟩
 rcases ho with ho | ⟨g, cap, cur, e1, e2, e3, e4⟩
 ·exact .inl ho
 ·exact .inr ⟨g, cap, cur, e1, e2, (hg.block g (Array.getElem?_eq_some_iff.1 e3).1 (fun e => by injection e with e; omega)).trans e3, e4⟩
theorem had_step (d : Dsk) (a : Nat) : hadB d (a + 1) = fun v => hadB d a v || (decide ((pLook d a).2.kind ≠ 1) && decide ((pLook d a).2.ver = v)) := by
 funext v
 unfold hadB
 rw [List.range_succ, List.any_append]
 simp
theorem ver_ok (d : Dsk) (p : Int) : intOk (pLook d p).2.ver := by
 have := rWrong_zero' (pLook_right d p)
 unfold intOk
 omega
theorem tTo_len (d : Dsk) : ∀ a, (tTo d a).length ≤ a
 | 0 => Nat.le_refl _
 | a + 1 => by
  have := tTo_len d a
  show (if _ then _ else _ : List Int).length ≤ _
  split
  ·simp; omega
  ·omega
set_option maxRecDepth 100000 in
set_option maxHeartbeats 4000000 in
theorem fTwice_v {T : List TypeId} {base : Nat} {v : Value} {d : Dsk} {w : World} (h : DskV T w base v d) (hk : DskOk d) :
  Calls Tryz.prog 48 #[v] w fun e w' => ∃ v', e = .returned v' ∧ OwnRow eInt w' w.heap.size 0 v' (fTwice d) ∧ Ext w w' := by
 obtain ⟨A, n, c, E, m, e, rfl, HN, HM, hb, hl, hnc, hme⟩ := h.form
 clear hb hl HM
 have hn4 : n ≤ 4096 := by have := hk.blocks; have := HN.out; omega
 have hmm := @run_makeMap Tryz.prog
 go_enter Tryz.func48, Tryz.ntmps48
 go_upto_region 3 with (fail)
 clear hmm
 generalize hwn : World.alloc w (.cells _ _) = w1
 have hx1 : Ext w w1 := by rw [← hwn]; exact ext_alloc _ _
 have b1 : Box w1 w.heap.size 27 #[.slice A n c, .slice E m e] := by rw [← hwn]; exact Box.new _ _ _ rfl
 have hz1 : w1.heap.size = w.heap.size + 1 := by rw [← hwn, size_alloc]
 generalize hwn : World.alloc w1 _ = w2
 have he : Ext w1 w2 := by rw [← hwn]; exact ext_alloc _ _
 have set0 : OwnSet w2 w1.heap.size 0 (fun _ => false) := by rw [← hwn]; exact OwnSet.made w1
 clear hwn
 have hx := ext_trans hx1 he
 have b1 := b1.ext he
 obtain ⟨g1, hg1⟩ : ∃ g, g = w.heap.size := ⟨_, rfl⟩
 obtain ⟨gm, hgm⟩ : ∃ g, g = w1.heap.size := ⟨_, rfl⟩
 rw [← hgm] at set0
 rw [show w.heap.size + 1 = gm by omega, ← hg1]
 rw [show Box w2 w.heap.size 27 #[.slice A n c, .slice E m e] ↔ Box w2 g1 27 #[.slice A n c, .slice E m e] by rw [hg1]] at b1
 have hlt1 : g1 < gm := by omega
 have hgw : w.heap.size ≤ gm := by omega
 have HGM := Lib.hid hgm
 clear hg1 hz1 hgm
 obtain ⟨k, hk2⟩ : ∃ k : Nat, (n : Int) / 2 = (k : Int) := ⟨n / 2, by omega⟩
 have HK := Lib.hid (show k = d.blocks.length / 2 by rw [← HN.out]; omega)
 have hk4 : k ≤ 2048 := by omega
 obtain ⟨b1_0, b1_1⟩ := b1.c2
 have b1_z := b1.free
 have b1_l := b1.lt
 go_upto_region 4 with (fail)
 try rw [hk2]
 clear hk2
 try clear b1_0 b1_1 b1_z b1_l
 go_loopw [3, 13] (fun v3 i wr => ∃ a : Nat, a ≤ k ∧ i = .int .i64 a ∧ OwnRow eInt wr (gm + 1) 0 v3 (tTo d a) ∧ OwnSet wr gm a (hadB d a) ∧ Box wr g1 27 #[.slice A n c, .slice E m e] ∧ Ext w1 wr) (fun _ i _ => k - (intOf i).toNat)
 case atStart => exact ⟨0, by omega, rfl, OwnRow.nil _ _ _ _, set0, b1, he⟩
 case round =>
  clear set0 b1 he hx
  obtain ⟨a, ha, rfl, own, hset, b1, hxd⟩ := hrel
  have hx := ext_trans hx1 hxd
  have hz := hx.size
  have lb1 := b1.lt
  have lgm := hset.lt
  by_cases hlt : a < k
  ·have e1 : (a : Int) < (k : Int) := by omega
   obtain ⟨b1_0, b1_1⟩ := b1.c2
   have b1_z := b1.free
   have b1_l := b1.lt
   go_wp2_with fail
   refine (look_v (p := (a : Int)) (h.ext hx) hk).mono ?_
   rintro e2 w2 ⟨rv, rfl, hr, he⟩
   try clear b1_0 b1_1 b1_z b1_l
   have hx := ext_trans hx he
   have hxd := ext_trans hxd he
   have own := own.ext he
   have b1 := b1.ext he
   have hset := hset.ext he
   clear he
   obtain ⟨how, hhow⟩ : ∃ x, (pLook d (a : Int)).1 = x := ⟨_, rfl⟩
   obtain ⟨r, hr'⟩ : ∃ x, (pLook d (a : Int)).2 = x := ⟨_, rfl⟩
   have hvo := ver_ok d (a : Int)
   have HS := Lib.hid (had_step d a)
   have hst := show tTo d (a + 1) = if (pLook d a).2.kind ≠ 1 ∧ hadB d a (pLook d a).2.ver = true then tTo d a ++ [(a : Int)] else tTo d a from rfl
   rw [hhow]
   rw [hr'] at hr hvo HS hst
   have HST := Lib.hid hst
   clear hhow hr' hst
   obtain ⟨u2, rfl, hu2⟩ := hr
   obtain ⟨A2, n2, c2, rfl, _, _⟩ := hu2.form
   go_upto_region 7 with (fail)
   generalize hwn : World.alloc w2 _ = w3
   have he : Ext w2 w3 := by rw [← hwn]; exact ext_alloc _ _
   have b7 : Box w3 w2.heap.size 54 #[.int .i64 r.kind, .int .i64 r.key, .int .i64 r.ver, .slice A2 n2 c2] := by rw [← hwn]; exact Box.new _ _ _ (by simp)
   clear hwn
   have hne := own_new own (Nat.le_refl _)
   have hx := ext_trans hx he
   have hxd := ext_trans hxd he
   have own := own.ext he
   have b1 := b1.ext he
   have hset := hset.ext he
   clear he
   by_cases hk1 : r.kind = 1
   ·have q : (r.kind == 1) = true := by simpa using hk1
    have HT2 := Lib.hid (show tTo d (a + 1) = tTo d a by rw [HST.out, if_neg (fun h => h.1 hk1)])
    have hset2 : OwnSet w3 gm (a + 1) (hadB d (a + 1)) := by
     rw [HS.out]
     simp only [hk1]
     simpa using hset.sub (Nat.le_succ a)
    clear hk1
    obtain ⟨b7_0, b7_1, b7_2, b7_3⟩ := b7.c4
    have b7_z := b7.free
    have b7_l := b7.lt
    go_wp2_with fail
    refine ⟨⟨a + 1, by omega, rfl, by rw [HT2.out]; exact own, hset2, b1, hxd⟩, ?_⟩
    simp only [intOf]
    omega
   ·have q : (r.kind == 1) = false := by simpa using hk1
    have look := hset.look hvo
    have HS2 := Lib.hid (show hadB d (a + 1) = fun v => hadB d a v || decide (v = r.ver) by
     rw [HS.out]
     funext v
     simp [hk1, eq_comm])
    cases hq : hadB d a r.ver with
    | false =>
     rw [hq] at look
     have HT2 := Lib.hid (show tTo d (a + 1) = tTo d a by rw [HST.out, if_neg (fun h => by rw [hq] at h; exact absurd h.2 (by simp))])
     clear hk1 hq
     obtain ⟨b7_0, b7_1, b7_2, b7_3⟩ := b7.c4
     have b7_z := b7.free
     have b7_l := b7.lt
     go_upto_region 11 with (at_mapUpdate; (refine wpl_mset rfl (.tmp 33) (.tmp 35) (.const (.bool true)) rfl rfl hset (by unfold maxLen; omega) rfl hvo rfl ?_; intro w4 set4 hg4))
     try clear b7_0 b7_1 b7_2 b7_3 b7_z b7_l b7_0 b7_1 b7_2 b7_3 b7_z b7_l
     have hset2 : OwnSet w4 gm (a + 1) (hadB d (a + 1)) := by rw [HS2.out]; exact set4
     have own := own.mset hset hg4 (Nat.lt_succ_self _) (Nat.zero_le _)
     have hxd : Ext w1 w4 := hxd.grown hg4 hxd.size (fun k e => by cases e; rw [HGM.out]; exact Nat.le_refl _)
     have b1 : Box w4 g1 27 #[.slice A n c, .slice E m e] := (hg4.block _ b1.lt (fun e => by injection e with e; omega)).trans b1
     clear set4 hset hg4 look q
     go_wp2_with fail
     refine ⟨⟨a + 1, by omega, rfl, by rw [HT2.out]; exact own, hset2, b1, hxd⟩, ?_⟩
     simp only [intOf]
     omega
    | true =>
     rw [hq] at look
     have HT2 := Lib.hid (show tTo d (a + 1) = tTo d a ++ [(a : Int)] by rw [HST.out, if_pos ⟨hk1, hq⟩])
     have HL9 : Hid ((tTo d a).length + 1 ≤ lim) := Lib.hid (by have := tTo_len d a; rw [lim_def]; omega)
     clear hk1 hq
     have lw3 := hset.lt
     obtain ⟨b7_0, b7_1, b7_2, b7_3⟩ := b7.c4
     have b7_z := b7.free
     have b7_l := b7.lt
     go_upto_region 10 with (at_builtin; (refine wpl_int rfl (.tmp 29) (.tmp 31) rfl rfl (own.ext (ext_alloc _ _)) rfl (Sl.new _ _ _ _ 1 1 rfl (by unfold maxLen; omega) (Nat.lt_succ_self _)) (y := (a : Int)) rfl HL9.out (by rw [size_alloc]; omega) (by omega) ?_; intro v7 w7 own7 hg7 hb7))
     try clear b7_0 b7_1 b7_2 b7_3 b7_z b7_l
     have b7 : Box w7 w2.heap.size 54 #[.int .i64 r.kind, .int .i64 r.key, .int .i64 r.ver, .slice A2 n2 c2] := (hg7.block _ (b7.alloc _).lt hne).trans (b7.alloc _)
     have hset : OwnSet w7 gm a (hadB d a) := (hset.ext (ext_alloc _ _)).below hb7 (Nat.lt_succ_self _)
     have hxd : Ext w1 w7 := (hxd.alloc hxd.size _).trans (hb7.mono (by have := HGM.out; omega))
     have b1 : Box w7 g1 27 #[.slice A n c, .slice E m e] := (b1.alloc _).below hb7 (by omega)
     clear look q own hg7 hb7
     obtain ⟨b7_0, b7_1, b7_2, b7_3⟩ := b7.c4
     have b7_z := b7.free
     have b7_l := b7.lt
     go_upto_region 11 with (at_mapUpdate; (refine wpl_mset rfl (.tmp 33) (.tmp 35) (.const (.bool true)) rfl rfl hset (by unfold maxLen; omega) rfl hvo rfl ?_; intro w4 set4 hg4))
     try clear b7_0 b7_1 b7_2 b7_3 b7_z b7_l
     have hset2 : OwnSet w4 gm (a + 1) (hadB d (a + 1)) := by rw [HS2.out]; exact set4
     have own := own7.mset hset hg4 (Nat.lt_succ_self _) (Nat.zero_le _)
     have hxd : Ext w1 w4 := hxd.grown hg4 hxd.size (fun k e => by cases e; rw [HGM.out]; exact Nat.le_refl _)
     have b1 : Box w4 g1 27 #[.slice A n c, .slice E m e] := (hg4.block _ b1.lt (fun e => by injection e with e; omega)).trans b1
     clear set4 hset hg4
     go_wp2_with fail
     refine ⟨⟨a + 1, by omega, rfl, by rw [HT2.out]; exact own, hset2, b1, hxd⟩, ?_⟩
     simp only [intOf]
     omega
  ·obtain rfl : a = k := by omega
   go_wp2_with fail
   go_ret
   have own := own.more (rb' := w.heap.size) (by omega) (Nat.le_refl _)
   rw [HK.out] at own
   exact ⟨_, rfl, own, hx⟩
end Go.Proofs.YtdmnmfnmaccmoaaGreatDoor
/- Walks: scref6.Twice. -/
namespace Go.Proofs.YtdmnmfnmaccmoaaGreatDoor
open Go Go.RowKit
end Go.Proofs.YtdmnmfnmaccmoaaGreatDoor
/- Walks: scrub.Look, scref6.Report. -/
namespace Go.Proofs.YtdmnmfnmaccmoaaGreatDoor
open Go Go.RowKit
def rc (l : List Int) (h : Nat) : Int := ((l.filter fun x => decide (x = (h : Int))).length : Int)
def repC (l : List Int) : Array Value := #[.int .i64 (rc l 0), .int .i64 (rc l 1), .int .i64 (rc l 2), .int .i64 (rc l 3), .int .i64 (rc l 4), .int .i64 (rc l 5)]
theorem rc_snoc (l : List Int) (x : Int) (h : Nat) : rc (l ++ [x]) h = rc l h + if x = (h : Int) then 1 else 0 := by
 unfold rc
 rw [List.filter_append, List.length_append]
 by_cases e : x = (h : Int) <;> simp [e]
theorem rc_len (l : List Int) (h : Nat) : 0 ≤ rc l h ∧ rc l h ≤ l.length := by
 unfold rc
 have := List.length_filter_le (fun x => decide (x = (h : Int))) l
 omega
theorem repC_at (l : List Int) {h : Nat} (hh : h < 6) : (repC l)[h]? = some (.int .i64 (rc l h)) := by
 match h, hh with
 | 0, _ => rfl
 | 1, _ => rfl
 | 2, _ => rfl
 | 3, _ => rfl
 | 4, _ => rfl
 | 5, _ => rfl
theorem repC_set (l : List Int) {h : Nat} (hh : h < 6) : (repC l).setIfInBounds h (.int .i64 (rc l h + 1)) = repC (l ++ [(h : Int)]) := by
 unfold repC
 simp only [rc_snoc]
 match h, hh with
 | 0, _ => simp
 | 1, _ => simp
 | 2, _ => simp
 | 3, _ => simp
 | 4, _ => simp
 | 5, _ => simp
theorem look_how (d : Dsk) (p : Int) : ∃ h : Nat, (pLook d p).1 = (h : Int) ∧ h < 6 := by
 unfold pLook pHow
 split
 ·split
  ·exact ⟨4, rfl, by omega⟩
  ·split
   ·split
    ·exact ⟨1, rfl, by omega⟩
    ·exact ⟨5, rfl, by omega⟩
   ·split
    ·exact ⟨2, rfl, by omega⟩
    ·split
     ·exact ⟨2, rfl, by omega⟩
     ·split
      ·exact ⟨0, rfl, by omega⟩
      ·exact ⟨3, rfl, by omega⟩
 ·exact ⟨4, rfl, by omega⟩
end Go.Proofs.YtdmnmfnmaccmoaaGreatDoor
