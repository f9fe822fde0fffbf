/- Walks of chapter 7: the deed of a text. -/
import Derived.Test.YtdmnmfnmaccmoaaDoorTx7
namespace Go.Proofs.YtdmnmfnmaccmoaaDoor
open Go Go.RowKit
theorem byt_one {w : World} {g j : Nat} {cs : Array Value} {v x : Value} {l : List UInt8} (k : Box w g 24 cs) (hd : ByT w 0 v l) : ByT (w.setCell ⟨g, j, none⟩ x) 0 v l := by
 have kk := k.kd
 exact hd.kept (T := []) (by (repeat (with_reducible (first | assumption | exact Kept.refl _ _ _ | (apply Kept.setK; rotate_left; (repeat (first | assumption | apply Kd.set | apply Kd.alloc | apply Kd.drew)); decide; omega) | refine Kept.allocK ?_ _ | refine Kept.drewK ?_))))
theorem ded_step {w : World} {g : Nat} {cs : Array Value} {v a b c e : Value} {d : Ded} (k : Box w g 24 cs) (hd : DedV w 0 v d) : DedV ((((w.setCell ⟨g, 0, none⟩ a).setCell ⟨g, 1, none⟩ b).setCell ⟨g, 2, none⟩ c).setCell ⟨g, 3, none⟩ e) 0 v d := by
 have kk := k.kd
 exact hd.kept (T := []) (by (repeat (with_reducible (first | assumption | exact Kept.refl _ _ _ | (apply Kept.setK; rotate_left; (repeat (first | assumption | apply Kd.set | apply Kd.alloc | apply Kd.drew)); decide; omega) | refine Kept.allocK ?_ _ | refine Kept.drewK ?_))))
theorem ded_zero (w : World) (base : Nat) : DedV w base (.agg #[.int .i64 0, .int .i64 0, .int .i64 0, .slice none 0 0]) dZ := ⟨_, rfl, ByT.nil _ _⟩
set_option maxHeartbeats 4000000 in
set_option maxRecDepth 100000 in
theorem parse_v (l : List UInt8) (hl : l.length ≤ 1000000000) {w : World} (hV : VarT w) :
  Calls Tryd.prog 6 #[.string ⟨l.toArray⟩] w fun e w' => ∃ v q, e = .returned (.tuple #[v, .int .i64 q]) ∧ Hid (q = (tParse l).2) ∧ DedV w' w'.heap.size v (tParse l).1 ∧ Ext w w' := by
 have hV0 := hV
 obtain ⟨a, ws, hc⟩ := cut_cons l
 have hle := cut_le l
 have hcl := cut_len l
 have HS := Lib.hid (show Hid (∀ u ∈ tCut l, u.length ≤ 1000000000) from fun u hu => Nat.le_trans (hle u hu) hl)
 have HC := Lib.hid hc
 clear hle hc
 go_enter Tryd.func6, Tryd.ntmps6
 go_wp2_with (go_at_call 13; refine (split_v l hl (hV.ext (ext_alloc w _))).mono ?_; refine Lib.hid ?_)
 rintro e w1 ⟨rfl, bs, hE1⟩
 have b0 := (Box.new w #[.int .i64 0, .int .i64 0, .int .i64 0, .slice none 0 0] 24 rfl).ext hE1
 have hE := ext_trans (ext_alloc w (.cells #[.int .i64 0, .int .i64 0, .int .i64 0, .slice none 0 0] 24)) hE1
 have hz1 := hE1.size
 obtain ⟨gs, hgs⟩ : ∃ g, g = (w.alloc (.cells #[.int .i64 0, .int .i64 0, .int .i64 0, .slice none 0 0] 24)).heap.size := ⟨_, rfl⟩
 rw [← hgs] at bs ⊢
 have h0s : w.heap.size < gs := by rw [hgs]; simp
 clear hgs hE1 hz1
 obtain ⟨n, hn⟩ : ∃ n, n = (tCut l).length := ⟨_, rfl⟩
 rw [← hn] at hcl ⊢
 have n0 : 0 < n := by rw [hn, HC.out]; simp
 have HN := Lib.hid hn
 clear hn
 have hmm := @run_makeMap Tryd.prog
 go_wp2_with (refine wpl_ins rfl (.tmp 12) _ _ rfl rfl (World.ownsMap_made w1 _ _ _) (by unfold maxLen; omega) rfl (by decide) rfl (by decide) (by decide) ?_; refine Lib.hid ?_)
 intro w2 m2 g2
 go_wp2_with (refine wpl_ins rfl (.tmp 12) _ _ rfl rfl m2 (by unfold maxLen; omega) rfl (by decide) rfl (by decide) (by decide) ?_; refine Lib.hid ?_)
 intro w3 m3 g3
 go_wp2_with (refine wpl_ins rfl (.tmp 12) _ _ rfl rfl m3 (by unfold maxLen; omega) rfl (by decide) rfl (by decide) (by decide) ?_; refine Lib.hid ?_)
 intro w4 m4 g4
 have hb2 : Ext w1 w2 := (ext_alloc w1 _).grown g2 (by simp) (fun k hk => by injection hk with hk; omega)
 have hb3 : Ext w1 w3 := hb2.grown g3 hb2.size (fun k hk => by injection hk with hk; omega)
 have hb4 : Ext w1 w4 := hb3.grown g4 hb3.size (fun k hk => by injection hk with hk; omega)
 have hlk := kind_look m4 a (HS.out.out a (by rw [HC.out]; simp))
 have bs := bs.ext hb4
 have b0 := b0.ext hb4
 have hE := ext_trans hE hb4
 have cs0 := bs.cell 0 (v := .string ⟨a.toArray⟩) (by rw [HC.out]; rfl)
 obtain ⟨ab, hab⟩ : ∃ b : ByteArray, b = ⟨a.toArray⟩ := ⟨_, rfl⟩
 rw [← hab] at hlk cs0
 clear hab g2 g3 g4 m2 m3 m4 hb2 hb3 hb4
 obtain ⟨gm, hgm⟩ : ∃ g, g = w1.heap.size := ⟨_, rfl⟩
 rw [← hgm] at hlk ⊢
 clear hgm
 go_upto_region 3 with (fail)
 generalize hwn : World.alloc w4 _ = w5
 have he : Ext w4 w5 := by rw [← hwn]; exact ext_alloc _ _
 have bd : Box w5 w4.heap.size 24 #[.int .i64 (tKind a), .int .i64 0, .int .i64 0, .slice none 0 0] := by rw [← hwn]; exact Box.new _ _ _ rfl
 have hsd := bs.lt
 clear hwn cs0 hlk hmm
 have bs := bs.ext he
 have b0 := b0.ext he
 have hE := ext_trans hE he
 have hV := hV.ext hE
 obtain ⟨gd, hgd⟩ : ∃ g, g = w4.heap.size := ⟨_, rfl⟩
 rw [← hgd] at bd hsd ⊢
 clear hgd he
 obtain ⟨hp0, hp1⟩ : (tParse l = if tKind a = 0 then (dZ, 1) else if n ≠ (if tKind a = 2 then 2 else 3) then (dZ, 2) else match tWords (tCut l) with
  | none => (dZ, 2)
  | some d => if mWrong d ≠ 0 then (dZ, mWrong d) else (d, 0)) ∧ True := ⟨by unfold tParse; rw [HN.out, HC.out]; rfl, trivial⟩
 clear hp1
 obtain ⟨tk, htk⟩ : ∃ k, k = tKind a := ⟨_, rfl⟩
 rw [← htk] at bd hp0 ⊢
 have HT := Lib.hid htk
 clear htk
 obtain ⟨y0, y1, y2, y3⟩ := b0.c4
 obtain ⟨x0, x1, x2, x3⟩ := bd.c4
 have xz := bd.free
 have yz := b0.free
 by_cases k0 : tk = 0
 ·have HP := Lib.hid (hp0.trans (if_pos k0))
  clear hp0
  go_wp2_with fail
  ((try simp only [Exit.inBlock, Exit.then]); refine bodyPost_ret (v := ?_) ?resultOf rfl ?_; case resultOf => (rw [results_cell_tmp rfl]; go_simp; rfl))
  rw [HP.out]
  exact ⟨_, _, rfl, Lib.hid rfl, ded_zero _ _, by (repeat (with_reducible (first | assumption | exact Below.refl _ _ | refine Below.setCell ?_ (by simp <;> omega) _ | refine Below.alloc ?_ (by simp <;> omega) _ | refine Below.drew ?_ | refine below_drewN ?_ _)))⟩
 rw [if_neg k0] at hp0
 by_cases k2 : tk = 2
 ·subst k2
  rw [if_pos rfl] at hp0
  by_cases n2 : n = 2
  ·subst n2
   rw [if_neg (by simp)] at hp0
   obtain ⟨b, Hb⟩ : ∃ b, Hid (tCut l = [a, b]) := by
    have e1 := HC.out
    have e2 := HN.out
    rw [e1] at e2
    match ws, e2 with
    | [b], _ => exact ⟨b, Lib.hid e1⟩
   have hbl := HS.out.out b (by rw [Hb.out]; simp)
   have cs1 := bs.cell 1 (v := .string ⟨b.toArray⟩) (by rw [Hb.out]; rfl)
   have hnum := number_v b hbl hV
   have hw : tWords (tCut l) = (tNum b).map fun k => ⟨2, k, 0, []⟩ := by
    rw [Hb.out]
    unfold tWords
    show (if tKind a = 2 then _ else _) = _
    rw [← HT.out, if_pos rfl]
    rfl
   rw [hw] at hp0
   have HP0 := Lib.hid hp0
   obtain ⟨bb, hbb⟩ : ∃ z : ByteArray, z = ⟨b.toArray⟩ := ⟨_, rfl⟩
   rw [← hbb] at cs1 hnum
   clear hbb hp0 hw
   go_wp2_with (go_at_call 14; refine hnum.mono ?_; refine Lib.hid ?_)
   rintro e w6 ⟨v, bn, rfl, Hn, he⟩
   clear hnum cs1
   have hs5 := bs.lt
   have hd5 := bd.lt
   have bs := bs.ext he
   have b0 := b0.ext he
   have bd := bd.ext he
   have hE := ext_trans hE he
   clear he
   try clear x0 x1 x2 x3 y0 y1 y2 y3 xz yz
   obtain ⟨y0, y1, y2, y3⟩ := b0.c4
   obtain ⟨x0, x1, x2, x3⟩ := bd.c4
   have xz := bd.free
   have yz := b0.free
   cases bn with
   | false =>
    have HP : Hid (tParse l = (dZ, 2)) := by
     cases hv : tNum b with
     | none => rw [HP0.out, hv]; exact Lib.hid rfl
     | some u => have := Hn.out.1; rw [hv] at this; cases this
    clear HP0
    go_wp2_with fail
    ((try simp only [Exit.inBlock, Exit.then]); refine bodyPost_ret (v := ?_) ?resultOf rfl ?_; case resultOf => (rw [results_cell_tmp rfl]; go_simp; rfl))
    rw [HP.out]
    exact ⟨_, _, rfl, Lib.hid rfl, ded_zero _ _, by (repeat (with_reducible (first | assumption | exact Below.refl _ _ | refine Below.setCell ?_ (by simp <;> omega) _ | refine Below.alloc ?_ (by simp <;> omega) _ | refine Below.drew ?_ | refine below_drewN ?_ _)))⟩
   | true =>
    have HP1 : Hid (tParse l = if mWrong ⟨2, v, 0, []⟩ ≠ 0 then (dZ, mWrong ⟨2, v, 0, []⟩) else (⟨2, v, 0, []⟩, 0)) := by
     cases hv : tNum b with
     | none => have := Hn.out.1; rw [hv] at this; cases this
     | some u =>
      obtain rfl := Hn.out.2 u hv
      rw [HP0.out, hv]; exact Lib.hid rfl
    clear HP0
    go_upto_region 21 with (fail)
    generalize hwn : World.setCell w6 _ _ = w7
    have b0 : Box w7 w.heap.size 24 #[.int .i64 0, .int .i64 0, .int .i64 0, .slice none 0 0] := by rw [← hwn]; exact b0.setOther (p := ⟨gd, 1, none⟩) (show w.heap.size ≠ gd by omega) _
    have bs : Box w7 gs 9 (strs (tCut l)).toArray := by rw [← hwn]; exact bs.setOther (p := ⟨gd, 1, none⟩) (show gs ≠ gd by omega) _
    have hE : Ext w w7 := by rw [← hwn]; exact hE.setCell (by show w.heap.size ≤ gd; omega) _
    have bd : Box w7 gd 24 #[.int .i64 2, .int .i64 v, .int .i64 0, .slice none 0 0] := by rw [← hwn]; exact bd.set 1 _
    clear hwn
    clear x0 x1 x2 x3 y0 y1 y2 y3 xz yz
    obtain ⟨y0, y1, y2, y3⟩ := b0.c4
    obtain ⟨x0, x1, x2, x3⟩ := bd.c4
    have xz := bd.free
    have yz := b0.free
    have hded : DedV w7 0 (.agg #[.int .i64 2, .int .i64 v, .int .i64 0, .slice none 0 0]) ⟨2, v, 0, []⟩ := ⟨_, rfl, ByT.nil _ _⟩
    go_wp2_with (go_at_call 16; refine (mWrong_v hded).mono ?_; refine Lib.hid ?_)
    rintro e w10 ⟨rfl, he⟩
    have hded := hded.ext he
    have hs5 := bs.lt
    have hd5 := bd.lt
    have bs := bs.ext he
    have b0 := b0.ext he
    have bd := bd.ext he
    have hE := ext_trans hE he
    clear he
    try clear x0 x1 x2 x3 y0 y1 y2 y3 xz yz
    obtain ⟨y0, y1, y2, y3⟩ := b0.c4
    obtain ⟨x0, x1, x2, x3⟩ := bd.c4
    have xz := bd.free
    have yz := b0.free
    obtain ⟨d, hd⟩ : ∃ d : Ded, d = ⟨2, v, 0, []⟩ := ⟨_, rfl⟩
    rw [← hd] at hded HP1 ⊢
    clear hd
    obtain ⟨q, hq⟩ : ∃ q, q = mWrong d := ⟨_, rfl⟩
    rw [← hq] at HP1 ⊢
    clear hq
    by_cases z : q = 0
    ·have HP : Hid (tParse l = (d, 0)) := by rw [HP1.out, if_neg (by simpa using z)]; exact Lib.hid rfl
     subst z
     clear HP1
     go_wp2_with fail
     ((try simp only [Exit.inBlock, Exit.then]); refine bodyPost_ret (v := ?_) ?resultOf rfl ?_; case resultOf => (rw [results_cell_tmp rfl]; go_simp; rfl))
     rw [HP.out]
     exact ⟨_, _, rfl, Lib.hid rfl, (ded_step b0 hded).all, by (repeat (with_reducible (first | assumption | exact Below.refl _ _ | refine Below.setCell ?_ (by simp <;> omega) _ | refine Below.alloc ?_ (by simp <;> omega) _ | refine Below.drew ?_ | refine below_drewN ?_ _)))⟩
    ·have HP : Hid (tParse l = (dZ, q)) := by rw [HP1.out, if_pos (by simpa using z)]; exact Lib.hid rfl
     have zq : (q != 0) = true := by simpa using z
     clear HP1 z
     go_wp2_with fail
     ((try simp only [Exit.inBlock, Exit.then]); refine bodyPost_ret (v := ?_) ?resultOf rfl ?_; case resultOf => (rw [results_cell_tmp rfl]; go_simp; rfl))
     rw [HP.out]
     exact ⟨_, _, rfl, Lib.hid rfl, ded_zero _ _, by (repeat (with_reducible (first | assumption | exact Below.refl _ _ | refine Below.setCell ?_ (by simp <;> omega) _ | refine Below.alloc ?_ (by simp <;> omega) _ | refine Below.drew ?_ | refine below_drewN ?_ _)))⟩
  ·rw [if_pos n2] at hp0
   have HP := Lib.hid hp0
   have q : ((n : Int) != 2) = true := by simp; omega
   clear hp0 n2
   go_wp2_with fail
   ((try simp only [Exit.inBlock, Exit.then]); refine bodyPost_ret (v := ?_) ?resultOf rfl ?_; case resultOf => (rw [results_cell_tmp rfl]; go_simp; rfl))
   rw [HP.out]
   exact ⟨_, _, rfl, Lib.hid rfl, ded_zero _ _, by (repeat (with_reducible (first | assumption | exact Below.refl _ _ | refine Below.setCell ?_ (by simp <;> omega) _ | refine Below.alloc ?_ (by simp <;> omega) _ | refine Below.drew ?_ | refine below_drewN ?_ _)))⟩
 ·rw [if_neg k2] at hp0
  have q0 : (tk == 0) = false := by simpa using k0
  have q2 : (tk == 2) = false := by simpa using k2
  by_cases n3 : n = 3
  ·subst n3
   rw [if_neg (by simp)] at hp0
   obtain ⟨b, c, Hb⟩ : ∃ b c, Hid (tCut l = [a, b, c]) := by
    have e1 := HC.out
    have e2 := HN.out
    rw [e1] at e2
    match ws, e2 with
    | [b, c], _ => exact ⟨b, c, Lib.hid e1⟩
   have hbl := HS.out.out b (by rw [Hb.out]; simp)
   have hcl2 := HS.out.out c (by rw [Hb.out]; simp)
   have cs1 := bs.cell 1 (v := .string ⟨b.toArray⟩) (by rw [Hb.out]; rfl)
   have hnum := number_v b hbl hV
   have hw : tWords (tCut l) = if tk = 1 then (tNum b).bind fun k => (unHex c).map fun x => ⟨1, k, 0, x⟩ else (tNum b).bind fun k => (tNum c).map fun n => ⟨3, k, n, []⟩ := by
    rw [Hb.out]
    unfold tWords
    show (if tKind a = 2 then _ else if tKind a = 1 then _ else _) = _
    rw [← HT.out, if_neg k2]
    rfl
   obtain ⟨bb, hbb⟩ : ∃ z : ByteArray, z = ⟨b.toArray⟩ := ⟨_, rfl⟩
   rw [← hbb] at cs1 hnum
   clear hbb
   have kk : tk = 1 ∨ tk = 3 := by
    rcases kind_cases a with ⟨_, e⟩ | ⟨_, e⟩ | ⟨_, e⟩ | e
    ·exact .inl (HT.out.trans e)
    ·exact absurd (HT.out.trans e) k2
    ·exact .inr (HT.out.trans e)
    ·exact absurd (HT.out.trans e) k0
   rcases kk with rfl | rfl
   ·rw [if_pos rfl] at hw
    rw [hw] at hp0
    have HP0 := Lib.hid hp0
    clear hp0 hw k0 k2 q0 q2
    go_wp2_with (go_at_call 14; refine hnum.mono ?_; refine Lib.hid ?_)
    rintro e w6 ⟨v, bn, rfl, Hn, he⟩
    clear hnum cs1
    have hV := hV.ext he
    have hs5 := bs.lt
    have hd5 := bd.lt
    have bs := bs.ext he
    have b0 := b0.ext he
    have bd := bd.ext he
    have hE := ext_trans hE he
    clear he
    try clear x0 x1 x2 x3 y0 y1 y2 y3 xz yz
    obtain ⟨y0, y1, y2, y3⟩ := b0.c4
    obtain ⟨x0, x1, x2, x3⟩ := bd.c4
    have xz := bd.free
    have yz := b0.free
    go_upto_region 16 with (fail)
    generalize hwn : World.setCell w6 _ _ = w7
    have b0 : Box w7 w.heap.size 24 #[.int .i64 0, .int .i64 0, .int .i64 0, .slice none 0 0] := by rw [← hwn]; exact b0.setOther (p := ⟨gd, 1, none⟩) (show w.heap.size ≠ gd by omega) _
    have bs : Box w7 gs 9 (strs (tCut l)).toArray := by rw [← hwn]; exact bs.setOther (p := ⟨gd, 1, none⟩) (show gs ≠ gd by omega) _
    have hE : Ext w w7 := by rw [← hwn]; exact hE.setCell (by show w.heap.size ≤ gd; omega) _
    have bd : Box w7 gd 24 #[.int .i64 1, .int .i64 v, .int .i64 0, .slice none 0 0] := by rw [← hwn]; exact bd.set 1 _
    clear hwn
    clear x0 x1 x2 x3 y0 y1 y2 y3 xz yz
    obtain ⟨y0, y1, y2, y3⟩ := b0.c4
    obtain ⟨x0, x1, x2, x3⟩ := bd.c4
    have xz := bd.free
    have yz := b0.free
    have cs2 := bs.cell 2 (v := .string ⟨c.toArray⟩) (by rw [Hb.out]; rfl)
    have hun := unhex_v c hcl2 w7
    obtain ⟨cc, hcc⟩ : ∃ z : ByteArray, z = ⟨c.toArray⟩ := ⟨_, rfl⟩
    rw [← hcc] at cs2 hun
    clear hcc
    go_wp2_with (go_at_call 15; refine hun.mono ?_; refine Lib.hid ?_)
    rintro e w8 ⟨u, bu, rfl, Hu, hub, he⟩
    clear hun cs2
    obtain ⟨A, un, uc, rfl⟩ : ∃ A n c, u = .slice A n c := by
     obtain ⟨A, n, c, e, _⟩ := hub
     exact ⟨A, n, c, e⟩
    have hs5 := bs.lt
    have hd5 := bd.lt
    have bs := bs.ext he
    have b0 := b0.ext he
    have bd := bd.ext he
    have hE := ext_trans hE he
    clear he
    try clear x0 x1 x2 x3 y0 y1 y2 y3 xz yz
    obtain ⟨y0, y1, y2, y3⟩ := b0.c4
    obtain ⟨x0, x1, x2, x3⟩ := bd.c4
    have xz := bd.free
    have yz := b0.free
    cases bn with
    | false =>
     have HP : Hid (tParse l = (dZ, 2)) := by
      cases hv : tNum b with
      | none => rw [HP0.out, hv]; exact Lib.hid rfl
      | some u => have := Hn.out.1; rw [hv] at this; cases this
     clear HP0
     go_wp2_with fail
     ((try simp only [Exit.inBlock, Exit.then]); refine bodyPost_ret (v := ?_) ?resultOf rfl ?_; case resultOf => (rw [results_cell_tmp rfl]; go_simp; rfl))
     rw [HP.out]
     exact ⟨_, _, rfl, Lib.hid rfl, ded_zero _ _, by (repeat (with_reducible (first | assumption | exact Below.refl _ _ | refine Below.setCell ?_ (by simp <;> omega) _ | refine Below.alloc ?_ (by simp <;> omega) _ | refine Below.drew ?_ | refine below_drewN ?_ _)))⟩
    | true =>
     obtain ⟨v', hv⟩ : ∃ x, tNum b = some x := Option.isSome_iff_exists.1 Hn.out.1.symm
     obtain rfl := Hn.out.2 v' hv
     cases bu with
     | false =>
      have HP : Hid (tParse l = (dZ, 2)) := by
       cases hx : unHex c with
       | none => rw [HP0.out, hv, hx]; exact Lib.hid rfl
       | some u => have := Hu.out; rw [hx] at this; cases this
      clear HP0 hv
      go_wp2_with fail
      ((try simp only [Exit.inBlock, Exit.then]); refine bodyPost_ret (v := ?_) ?resultOf rfl ?_; case resultOf => (rw [results_cell_tmp rfl]; go_simp; rfl))
      rw [HP.out]
      exact ⟨_, _, rfl, Lib.hid rfl, ded_zero _ _, by (repeat (with_reducible (first | assumption | exact Below.refl _ _ | refine Below.setCell ?_ (by simp <;> omega) _ | refine Below.alloc ?_ (by simp <;> omega) _ | refine Below.drew ?_ | refine below_drewN ?_ _)))⟩
     | true =>
      obtain ⟨x, hx⟩ : ∃ x, unHex c = some x := Option.isSome_iff_exists.1 Hu.out.symm
      have HP1 : Hid (tParse l = if mWrong ⟨1, v, 0, x⟩ ≠ 0 then (dZ, mWrong ⟨1, v, 0, x⟩) else (⟨1, v, 0, x⟩, 0)) := by
       rw [HP0.out, hv, hx]; exact Lib.hid rfl
      rw [hx] at hub
      clear HP0 hv hx
      go_upto_region 21 with (fail)
      generalize hwn : World.setCell w8 _ _ = w9
      have b0 : Box w9 w.heap.size 24 #[.int .i64 0, .int .i64 0, .int .i64 0, .slice none 0 0] := by rw [← hwn]; exact b0.setOther (p := ⟨gd, 3, none⟩) (show w.heap.size ≠ gd by omega) _
      have bs : Box w9 gs 9 (strs (tCut l)).toArray := by rw [← hwn]; exact bs.setOther (p := ⟨gd, 3, none⟩) (show gs ≠ gd by omega) _
      have hE : Ext w w9 := by rw [← hwn]; exact hE.setCell (by show w.heap.size ≤ gd; omega) _
      have hub : ByT w9 0 (.slice A un uc) x := by rw [← hwn]; exact byt_one bd hub
      have bd : Box w9 gd 24 #[.int .i64 1, .int .i64 v, .int .i64 0, .slice A un uc] := by rw [← hwn]; exact bd.set 3 _
      clear hwn
      clear x0 x1 x2 x3 y0 y1 y2 y3 xz yz
      obtain ⟨y0, y1, y2, y3⟩ := b0.c4
      obtain ⟨x0, x1, x2, x3⟩ := bd.c4
      have xz := bd.free
      have yz := b0.free
      have hded : DedV w9 0 (.agg #[.int .i64 1, .int .i64 v, .int .i64 0, .slice A un uc]) ⟨1, v, 0, x⟩ := ⟨_, rfl, hub⟩
      go_wp2_with (go_at_call 16; refine (mWrong_v hded).mono ?_; refine Lib.hid ?_)
      rintro e w10 ⟨rfl, he⟩
      have hded := hded.ext he
      have hs5 := bs.lt
      have hd5 := bd.lt
      have bs := bs.ext he
      have b0 := b0.ext he
      have bd := bd.ext he
      have hE := ext_trans hE he
      clear he
      try clear x0 x1 x2 x3 y0 y1 y2 y3 xz yz
      obtain ⟨y0, y1, y2, y3⟩ := b0.c4
      obtain ⟨x0, x1, x2, x3⟩ := bd.c4
      have xz := bd.free
      have yz := b0.free
      obtain ⟨d, hd⟩ : ∃ d : Ded, d = ⟨1, v, 0, x⟩ := ⟨_, rfl⟩
      rw [← hd] at hded HP1 ⊢
      clear hd
      obtain ⟨q, hq⟩ : ∃ q, q = mWrong d := ⟨_, rfl⟩
      rw [← hq] at HP1 ⊢
      clear hq
      by_cases z : q = 0
      ·have HP : Hid (tParse l = (d, 0)) := by rw [HP1.out, if_neg (by simpa using z)]; exact Lib.hid rfl
       subst z
       clear HP1
       go_wp2_with fail
       ((try simp only [Exit.inBlock, Exit.then]); refine bodyPost_ret (v := ?_) ?resultOf rfl ?_; case resultOf => (rw [results_cell_tmp rfl]; go_simp; rfl))
       rw [HP.out]
       exact ⟨_, _, rfl, Lib.hid rfl, (ded_step b0 hded).all, by (repeat (with_reducible (first | assumption | exact Below.refl _ _ | refine Below.setCell ?_ (by simp <;> omega) _ | refine Below.alloc ?_ (by simp <;> omega) _ | refine Below.drew ?_ | refine below_drewN ?_ _)))⟩
      ·have HP : Hid (tParse l = (dZ, q)) := by rw [HP1.out, if_pos (by simpa using z)]; exact Lib.hid rfl
       have zq : (q != 0) = true := by simpa using z
       clear HP1 z
       go_wp2_with fail
       ((try simp only [Exit.inBlock, Exit.then]); refine bodyPost_ret (v := ?_) ?resultOf rfl ?_; case resultOf => (rw [results_cell_tmp rfl]; go_simp; rfl))
       rw [HP.out]
       exact ⟨_, _, rfl, Lib.hid rfl, ded_zero _ _, by (repeat (with_reducible (first | assumption | exact Below.refl _ _ | refine Below.setCell ?_ (by simp <;> omega) _ | refine Below.alloc ?_ (by simp <;> omega) _ | refine Below.drew ?_ | refine below_drewN ?_ _)))⟩
   ·rw [if_neg (by decide)] at hw
    rw [hw] at hp0
    have HP0 := Lib.hid hp0
    clear hp0 hw k0 k2 q0 q2
    go_wp2_with (go_at_call 14; refine hnum.mono ?_; refine Lib.hid ?_)
    rintro e w6 ⟨v, bn, rfl, Hn, he⟩
    clear hnum cs1
    have hV := hV.ext he
    have hs5 := bs.lt
    have hd5 := bd.lt
    have bs := bs.ext he
    have b0 := b0.ext he
    have bd := bd.ext he
    have hE := ext_trans hE he
    clear he
    try clear x0 x1 x2 x3 y0 y1 y2 y3 xz yz
    obtain ⟨y0, y1, y2, y3⟩ := b0.c4
    obtain ⟨x0, x1, x2, x3⟩ := bd.c4
    have xz := bd.free
    have yz := b0.free
    go_upto_region 18 with (fail)
    generalize hwn : World.setCell w6 _ _ = w7
    have b0 : Box w7 w.heap.size 24 #[.int .i64 0, .int .i64 0, .int .i64 0, .slice none 0 0] := by rw [← hwn]; exact b0.setOther (p := ⟨gd, 1, none⟩) (show w.heap.size ≠ gd by omega) _
    have bs : Box w7 gs 9 (strs (tCut l)).toArray := by rw [← hwn]; exact bs.setOther (p := ⟨gd, 1, none⟩) (show gs ≠ gd by omega) _
    have hE : Ext w w7 := by rw [← hwn]; exact hE.setCell (by show w.heap.size ≤ gd; omega) _
    have bd : Box w7 gd 24 #[.int .i64 3, .int .i64 v, .int .i64 0, .slice none 0 0] := by rw [← hwn]; exact bd.set 1 _
    have hV : VarT w7 := hV0.ext hE
    clear hwn
    clear x0 x1 x2 x3 y0 y1 y2 y3 xz yz
    obtain ⟨y0, y1, y2, y3⟩ := b0.c4
    obtain ⟨x0, x1, x2, x3⟩ := bd.c4
    have xz := bd.free
    have yz := b0.free
    have cs2 := bs.cell 2 (v := .string ⟨c.toArray⟩) (by rw [Hb.out]; rfl)
    have hun := number_v c hcl2 hV
    obtain ⟨cc, hcc⟩ : ∃ z : ByteArray, z = ⟨c.toArray⟩ := ⟨_, rfl⟩
    rw [← hcc] at cs2 hun
    clear hcc
    go_wp2_with (go_at_call 14; refine hun.mono ?_; refine Lib.hid ?_)
    rintro e w8 ⟨u, bu, rfl, Hu, he⟩
    clear hun cs2
    have hs5 := bs.lt
    have hd5 := bd.lt
    have bs := bs.ext he
    have b0 := b0.ext he
    have bd := bd.ext he
    have hE := ext_trans hE he
    clear he
    try clear x0 x1 x2 x3 y0 y1 y2 y3 xz yz
    obtain ⟨y0, y1, y2, y3⟩ := b0.c4
    obtain ⟨x0, x1, x2, x3⟩ := bd.c4
    have xz := bd.free
    have yz := b0.free
    cases bn with
    | false =>
     have HP : Hid (tParse l = (dZ, 2)) := by
      cases hv : tNum b with
      | none => rw [HP0.out, hv]; exact Lib.hid rfl
      | some u => have := Hn.out.1; rw [hv] at this; cases this
     clear HP0
     go_wp2_with fail
     ((try simp only [Exit.inBlock, Exit.then]); refine bodyPost_ret (v := ?_) ?resultOf rfl ?_; case resultOf => (rw [results_cell_tmp rfl]; go_simp; rfl))
     rw [HP.out]
     exact ⟨_, _, rfl, Lib.hid rfl, ded_zero _ _, by (repeat (with_reducible (first | assumption | exact Below.refl _ _ | refine Below.setCell ?_ (by simp <;> omega) _ | refine Below.alloc ?_ (by simp <;> omega) _ | refine Below.drew ?_ | refine below_drewN ?_ _)))⟩
    | true =>
     obtain ⟨v', hv⟩ : ∃ x, tNum b = some x := Option.isSome_iff_exists.1 Hn.out.1.symm
     obtain rfl := Hn.out.2 v' hv
     cases bu with
     | false =>
      have HP : Hid (tParse l = (dZ, 2)) := by
       cases hx : tNum c with
       | none => rw [HP0.out, hv, hx]; exact Lib.hid rfl
       | some u => have := Hu.out.1; rw [hx] at this; cases this
      clear HP0 hv
      go_wp2_with fail
      ((try simp only [Exit.inBlock, Exit.then]); refine bodyPost_ret (v := ?_) ?resultOf rfl ?_; case resultOf => (rw [results_cell_tmp rfl]; go_simp; rfl))
      rw [HP.out]
      exact ⟨_, _, rfl, Lib.hid rfl, ded_zero _ _, by (repeat (with_reducible (first | assumption | exact Below.refl _ _ | refine Below.setCell ?_ (by simp <;> omega) _ | refine Below.alloc ?_ (by simp <;> omega) _ | refine Below.drew ?_ | refine below_drewN ?_ _)))⟩
     | true =>
      obtain ⟨x, hx⟩ : ∃ x, tNum c = some x := Option.isSome_iff_exists.1 Hu.out.1.symm
      obtain rfl := Hu.out.2 x hx
      have HP1 : Hid (tParse l = if mWrong ⟨3, v, u, []⟩ ≠ 0 then (dZ, mWrong ⟨3, v, u, []⟩) else (⟨3, v, u, []⟩, 0)) := by
       rw [HP0.out, hv, hx]; exact Lib.hid rfl
      clear HP0 hv hx
      go_upto_region 21 with (fail)
      generalize hwn : World.setCell w8 _ _ = w9
      have b0 : Box w9 w.heap.size 24 #[.int .i64 0, .int .i64 0, .int .i64 0, .slice none 0 0] := by rw [← hwn]; exact b0.setOther (p := ⟨gd, 2, none⟩) (show w.heap.size ≠ gd by omega) _
      have bs : Box w9 gs 9 (strs (tCut l)).toArray := by rw [← hwn]; exact bs.setOther (p := ⟨gd, 2, none⟩) (show gs ≠ gd by omega) _
      have hE : Ext w w9 := by rw [← hwn]; exact hE.setCell (by show w.heap.size ≤ gd; omega) _
      have bd : Box w9 gd 24 #[.int .i64 3, .int .i64 v, .int .i64 u, .slice none 0 0] := by rw [← hwn]; exact bd.set 2 _
      clear hwn
      clear x0 x1 x2 x3 y0 y1 y2 y3 xz yz
      obtain ⟨y0, y1, y2, y3⟩ := b0.c4
      obtain ⟨x0, x1, x2, x3⟩ := bd.c4
      have xz := bd.free
      have yz := b0.free
      have hded : DedV w9 0 (.agg #[.int .i64 3, .int .i64 v, .int .i64 u, .slice none 0 0]) ⟨3, v, u, []⟩ := ⟨_, rfl, ByT.nil _ _⟩
      go_wp2_with (go_at_call 16; refine (mWrong_v hded).mono ?_; refine Lib.hid ?_)
      rintro e w10 ⟨rfl, he⟩
      have hded := hded.ext he
      have hs5 := bs.lt
      have hd5 := bd.lt
      have bs := bs.ext he
      have b0 := b0.ext he
      have bd := bd.ext he
      have hE := ext_trans hE he
      clear he
      try clear x0 x1 x2 x3 y0 y1 y2 y3 xz yz
      obtain ⟨y0, y1, y2, y3⟩ := b0.c4
      obtain ⟨x0, x1, x2, x3⟩ := bd.c4
      have xz := bd.free
      have yz := b0.free
      obtain ⟨d, hd⟩ : ∃ d : Ded, d = ⟨3, v, u, []⟩ := ⟨_, rfl⟩
      rw [← hd] at hded HP1 ⊢
      clear hd
      obtain ⟨q, hq⟩ : ∃ q, q = mWrong d := ⟨_, rfl⟩
      rw [← hq] at HP1 ⊢
      clear hq
      by_cases z : q = 0
      ·have HP : Hid (tParse l = (d, 0)) := by rw [HP1.out, if_neg (by simpa using z)]; exact Lib.hid rfl
       subst z
       clear HP1
       go_wp2_with fail
       ((try simp only [Exit.inBlock, Exit.then]); refine bodyPost_ret (v := ?_) ?resultOf rfl ?_; case resultOf => (rw [results_cell_tmp rfl]; go_simp; rfl))
       rw [HP.out]
       exact ⟨_, _, rfl, Lib.hid rfl, (ded_step b0 hded).all, by (repeat (with_reducible (first | assumption | exact Below.refl _ _ | refine Below.setCell ?_ (by simp <;> omega) _ | refine Below.alloc ?_ (by simp <;> omega) _ | refine Below.drew ?_ | refine below_drewN ?_ _)))⟩
      ·have HP : Hid (tParse l = (dZ, q)) := by rw [HP1.out, if_pos (by simpa using z)]; exact Lib.hid rfl
       have zq : (q != 0) = true := by simpa using z
       clear HP1 z
       go_wp2_with fail
       ((try simp only [Exit.inBlock, Exit.then]); refine bodyPost_ret (v := ?_) ?resultOf rfl ?_; case resultOf => (rw [results_cell_tmp rfl]; go_simp; rfl))
       rw [HP.out]
       exact ⟨_, _, rfl, Lib.hid rfl, ded_zero _ _, by (repeat (with_reducible (first | assumption | exact Below.refl _ _ | refine Below.setCell ?_ (by simp <;> omega) _ | refine Below.alloc ?_ (by simp <;> omega) _ | refine Below.drew ?_ | refine below_drewN ?_ _)))⟩
  ·rw [if_pos n3] at hp0
   have HP := Lib.hid hp0
   have q : ((n : Int) != 3) = true := by simp; omega
   clear hp0 n3 k0 k2
   go_wp2_with fail
   ((try simp only [Exit.inBlock, Exit.then]); refine bodyPost_ret (v := ?_) ?resultOf rfl ?_; case resultOf => (rw [results_cell_tmp rfl]; go_simp; rfl))
   rw [HP.out]
   exact ⟨_, _, rfl, Lib.hid rfl, ded_zero _ _, by (repeat (with_reducible (first | assumption | exact Below.refl _ _ | refine Below.setCell ?_ (by simp <;> omega) _ | refine Below.alloc ?_ (by simp <;> omega) _ | refine Below.drew ?_ | refine below_drewN ?_ _)))⟩
end Go.Proofs.YtdmnmfnmaccmoaaDoor
