/- Walks of chapter 7: the document's Parse. -/
import Derived.Test.YtdmnmfnmaccmoaaDoorTx11
import Derived.Shelf.Abstract
namespace Go.Proofs.YtdmnmfnmaccmoaaDoor
open Go Go.RowKit
def Wd (w : World) (g : Nat) (ws : List (List UInt8)) : Prop := g < w.heap.size ∧ ∀ i, i < ws.length → w.cell? ⟨g, i, none⟩ = some (.string ⟨(ws.getD i []).toArray⟩)
theorem Wd.ext {w w' : World} {g : Nat} {ws : List (List UInt8)} (h : Wd w g ws) (k : Ext w w') : Wd w' g ws := ⟨by have := k.size; have := h.1; omega, fun i hi => (k.cell (p := ⟨g, i, none⟩) h.1).trans (h.2 i hi)⟩
theorem Wd.set {w : World} {g : Nat} {ws : List (List UInt8)} (h : Wd w g ws) {p : Addr} (hp : p.block ≠ g) (u : Value) : Wd (w.setCell p u) g ws :=
 ⟨by rw [size_set]; exact h.1, fun i hi => by
  rw [← h.2 i hi]
  unfold World.cell?
  rw [Below.heap_setCell w p u g (fun e => hp e.symm)]⟩
theorem strs_nth {ws : List (List UInt8)} {i : Nat} (h : i < ws.length) : (strs ws)[i]? = some (.string ⟨(ws.getD i []).toArray⟩) := by
 unfold strs
 rw [List.getElem?_map, List.getD_eq_getElem?_getD, List.getElem?_eq_getElem h]
 rfl
theorem wd_own {w : World} {rb n c : Nat} {A : Option Addr} {ws : List (List UInt8)} (h : w.ownsRow rb 9 1 (.slice A n c) n (strs ws)) (h0 : 0 < n) (hn : n = ws.length) : ∃ g, A = some ⟨g, 0, none⟩ ∧ rb ≤ g ∧ n ≤ c ∧ c ≤ maxLen ∧ Wd w g ws := by
 obtain ⟨hl, h⟩ := h
 rcases h with ⟨_, h⟩ | ⟨g, cap, cur, hv, hg, hh, hc, hm, hs, ht⟩
 ·omega
 ·injection hv with h1 h2 h3
  subst h1 h3
  refine ⟨g, rfl, hg, hc, hm, (Array.getElem?_eq_some_iff.1 hh).1, fun i hi => ?_⟩
  rw [← strs_nth hi, ← ht, List.getElem?_take, if_pos (by omega)]
  simp [World.cell?, hh]
def stage (tk : Int) (ws : List (List UInt8)) : Nat → Option Ded
 | 0 => some ⟨tk, 0, 0, []⟩
 | 1 => (tNum (ws.getD 1 [])).map fun k => ⟨tk, k, 0, []⟩
 | _ => tWords ws
theorem words_bad {ws : List (List UInt8)} (h : tNum (ws.getD 1 []) = none) : tWords ws = none := by
 unfold tWords
 rw [h]
 split
 ·rfl
 ·split <;> rfl
theorem words_two {ws : List (List UInt8)} (h : tKind (ws.headD []) = 2) : tWords ws = stage 2 ws 1 := by
 unfold tWords
 rw [if_pos h]
 rfl
theorem words_one {ws : List (List UInt8)} {v : Int} (h : tKind (ws.headD []) = 1) (hv : tNum (ws.getD 1 []) = some v) : tWords ws = (unHex (ws.getD 2 [])).map fun b => ⟨1, v, 0, b⟩ := by
 unfold tWords
 rw [if_neg (by rw [h]; decide), if_pos h, hv]
 rfl
theorem words_three {ws : List (List UInt8)} {v : Int} (h : tKind (ws.headD []) = 3) (hv : tNum (ws.getD 1 []) = some v) : tWords ws = (tNum (ws.getD 2 [])).map fun n => ⟨3, v, n, []⟩ := by
 unfold tWords
 rw [if_neg (by rw [h]; decide), if_neg (by rw [h]; decide), hv]
 rfl
theorem tNum_ok {l : List UInt8} {v : Int} (h : Lib.atoiAll l = .ok v) (q : Lib.itoa v = l) : tNum l = some v := by
 unfold tNum
 rw [h]
 exact if_pos q
theorem tNum_ne {l : List UInt8} {v : Int} (h : Lib.atoiAll l = .ok v) (q : ¬ Lib.itoa v = l) : tNum l = none := by
 unfold tNum
 rw [h]
 exact if_neg q
theorem no_v (q : Int) (w : World) : Calls Tryd.prog 17 #[.int .i64 q] w fun e w' => e = .returned (.tuple #[.agg #[.int .i64 0, .int .i64 0, .int .i64 0, .slice none 0 0], .int .i64 q]) ∧ Ext w w' := by
 go_enter Tryd.func17, Tryd.ntmps17
 go_wp2
 ((try simp only [Exit.inBlock, Exit.then]); refine bodyPost_ret (v := ?_) ?resultOf rfl ?_; case resultOf => (rw [results_cell_tmp rfl]; go_simp; rfl))
 exact ⟨rfl, by (repeat (with_reducible (first | assumption | exact Below.refl _ _ | refine Below.setCell ?_ (by simp <;> omega) _ | refine Below.alloc ?_ (by simp <;> omega) _ | refine Below.drew ?_ | refine below_drewN ?_ _)))⟩
theorem kLits_at : ∀ k, k < 4 → (strs [kLit 0, kLit 1, kLit 2, kLit 3]).toArray[k]? = some (.string ⟨(kLit k).toArray⟩)
 | 0, _ => rfl
 | 1, _ => rfl
 | 2, _ => rfl
 | 3, _ => rfl
 | k + 4, h => absurd h (by omega)
set_option maxHeartbeats 8000000 in
set_option maxRecDepth 100000 in
theorem rParse_v (l : List UInt8) (hl : l.length ≤ 1000000000) {w : World} (hV : VarT w) :
  Calls Tryd.prog 7 #[.string ⟨l.toArray⟩] w fun e w' => ∃ v q, e = .returned (.tuple #[v, .int .i64 q]) ∧ Hid (q = (tParse l).2) ∧ DedV w' w'.heap.size v (tParse l).1 ∧ Ext w w' := by
 have eg := enters_of Tryd.func17 (by kernel_rfl) rfl
 have hle := cut_le l
 have HS := Lib.hid (show ∀ i, i < (tCut l).length → ((tCut l).getD i []).length ≤ 1000000000 from fun i hi => by
  have := hle ((tCut l).getD i []) (by rw [List.getD_eq_getElem?_getD, List.getElem?_eq_getElem hi]; exact List.getElem_mem _)
  omega)
 have HCL := Lib.hid (cut_len l)
 have hsz := sizeOf_ l
 have hd0 : (ByteArray.mk l.toArray).data.toList = l := by simp
 obtain ⟨t, ht⟩ : ∃ t : ByteArray, t = ⟨l.toArray⟩ := ⟨_, rfl⟩
 rw [← ht] at hsz hd0 ⊢
 have HD := Lib.hid hd0
 obtain ⟨m, hm⟩ : ∃ m, m = l.length := ⟨_, rfl⟩
 have HM := Lib.hid hm
 rw [← hm] at hsz hl
 have hb0 := Box.new w #[.int .i64 0, .int .i64 0, .int .i64 0, .slice none 0 0] 24 rfl
 clear ht hd0 hm hle
 go_enter Tryd.func7, Tryd.ntmps7
 go_upto_region 5 with (fail)
 generalize hwn : World.alloc w _ = w0
 have b0 : Box w0 w.heap.size 24 #[.int .i64 0, .int .i64 0, .int .i64 0, .slice none 0 0] := by rw [← hwn]; exact hb0
 have hE0 : Ext w w0 := by rw [← hwn]; exact ext_alloc _ _
 have hz0 : w0.heap.size = w.heap.size + 1 := by rw [← hwn, size_alloc]
 clear hwn hb0
 have HZ0 := Lib.hid hz0
 clear hz0
 go_loopw [5, 6, 21] (fun v f i wr => ∃ (j k : Nat) (D : List (List UInt8)), j ≤ m + 1 ∧ k ≤ m + 1 ∧ i = .int .i64 j ∧ f = .int .i64 k ∧ Hid ((j ≤ m → CutTo l j k D) ∧ (j = m + 1 → D = tCut l)) ∧ Hid (D.length ≤ j) ∧ wr.ownsRow w0.heap.size 9 1 v D.length (strs D) ∧ Ext w0 wr) (fun _ _ i _ => m + 1 - (intOf i).toNat)
 case atStart => exact ⟨0, 0, [], by omega, by omega, rfl, rfl, Lib.hid ⟨fun _ => cutTo_zero l, fun h => by omega⟩, Lib.hid (by simp), own_nil _ _ _ _, Below.refl _ _⟩
 case round =>
  obtain ⟨j, k, D, hj, hk, rfl, rfl, HC, HL, hown, hd⟩ := hrel
  have hs := hd.size
  by_cases hlt : j < m + 1
  ·have q1 : decide ((j : Int) < (m : Int) + 1) = true := by simp; omega
   have hwm : IntKind.wrap .i64 ((m : Int) + 1) = (m : Int) + 1 := by rw [IntKind.wrap_i64]; omega
   have hC := HC.out.1 (by omega)
   have hkj : k ≤ j := hC.1
   by_cases hjm : j = m
   ·subst hjm
    have q2 : ((j : Int) == (j : Int)) = true := by simp
    have HX := Lib.hid (show t.extract k j = ⟨((l.take j).drop k).toArray⟩ from extract_is HD.out)
    have hE1 : tCut l = D ++ [l.drop k] := by
     have h2 := hC
     rw [HM.out] at h2
     exact cutTo_end h2
    have HT : Hid (strs D ++ [.string (t.extract k j)] = strs (tCut l)) := Lib.hid (by
     rw [hE1, HX.out, List.take_of_length_le (by rw [← HM.out]; exact Nat.le_refl _)]
     unfold strs
     rw [List.map_append]
     rfl)
    have HTL : Hid (D.length + 1 = (tCut l).length) := Lib.hid (by rw [hE1]; simp)
    have hDl : D.length ≤ 1000000001 := by have := HL.out; omega
    clear hC hE1
    obtain ⟨x, hx⟩ : ∃ x, x = t.extract k j := ⟨_, rfl⟩
    rw [← hx] at HT
    clear HX
    go_wp2_with (at_builtin; rw [← hx]; refine app_str rfl (.tmp 34) (.tmp 39) rfl w0.heap.size _ D.length _ rfl (own_alloc hown _) _ _ 1 1 [.string x] rfl (Sl.new _ _ _ _ 1 1 rfl (by unfold maxLen; omega) (Nat.lt_succ_self _)) (by simp [Value.oneCell']) (by omega) (by rw [size_alloc]; omega) ?_; intro v7 w7 hp7 hg7 hb7 hat7)
    rw [HT.out, HTL.out] at hp7
    refine ⟨⟨j + 1, j + 1, tCut l, by omega, by omega, by go_num, by go_num, Lib.hid ⟨fun h => by omega, fun _ => rfl⟩, Lib.hid (by have := HCL.out; have := HM.out; omega), hp7, ?_⟩, by simp [intOf] <;> omega⟩
    exact hd.trans (((ext_alloc wr _).mono hs).trans hb7)
   ·have hjm2 : j < m := by omega
    have hjl : j < l.length := by rw [← HM.out]; exact hjm2
    have q2 : ((j : Int) == (m : Int)) = false := by simp; omega
    obtain ⟨c, hc⟩ : ∃ c, c = l.getD j 0 := ⟨_, rfl⟩
    obtain ⟨ci, hci⟩ : ∃ ci : Int, ci = (c.toNat : Int) := ⟨_, rfl⟩
    have FJ : ∀ pf, ((t[j]'pf).toNat : Int) = ci := fun pf => by
     rw [hci, hc]
     have e : t[j]'pf = t.data.toList[j]'(by rw [HD.out]; exact hjl) := rfl
     rw [e]
     simp only [HD.out]
     rw [List.getD_eq_getElem?_getD, List.getElem?_eq_getElem hjl]
     rfl
    by_cases e : c = 32
    ·have q3 : (ci == 32) = true := by rw [hci, e]; rfl
     have HC2 := Lib.hid (cutTo_space hC hjl (by rw [← hc]; exact e))
     have HX := Lib.hid (show t.extract k j = ⟨((l.take j).drop k).toArray⟩ from extract_is HD.out)
     have HT : Hid (strs D ++ [.string (t.extract k j)] = strs (D ++ [(l.take j).drop k])) := Lib.hid (by
      rw [HX.out]
      unfold strs
      rw [List.map_append]
      rfl)
     have HTL : Hid (D.length + 1 = (D ++ [(l.take j).drop k]).length) := Lib.hid (by simp)
     have hDl : D.length ≤ 1000000001 := by have := HL.out; omega
     obtain ⟨x, hx⟩ : ∃ x, x = t.extract k j := ⟨_, rfl⟩
     rw [← hx] at HT
     obtain ⟨D2, hD2⟩ : ∃ X, X = D ++ [(l.take j).drop k] := ⟨_, rfl⟩
     rw [← hD2] at HT HTL HC2
     clear HX hC hc hci e hD2
     go_wp2_with (at_builtin; rw [← hx]; refine app_str rfl (.tmp 34) (.tmp 39) rfl w0.heap.size _ D.length _ rfl (own_alloc hown _) _ _ 1 1 [.string x] rfl (Sl.new _ _ _ _ 1 1 rfl (by unfold maxLen; omega) (Nat.lt_succ_self _)) (by simp [Value.oneCell']) (by omega) (by rw [size_alloc]; omega) ?_; intro v7 w7 hp7 hg7 hb7 hat7)
     rw [HT.out, HTL.out] at hp7
     refine ⟨⟨j + 1, j + 1, D2, by omega, by omega, by go_num, by go_num, Lib.hid ⟨fun _ => HC2.out, fun h => by omega⟩, Lib.hid (by have := HTL.out; have := HL.out; omega), hp7, ?_⟩, by simp [intOf] <;> omega⟩
     exact hd.trans (((ext_alloc wr _).mono hs).trans hb7)
    ·have q3 : (ci == 32) = false := by
      rw [hci, beq_eq_false_iff_ne]
      intro h
      exact e (UInt8.toNat_inj.1 (by show c.toNat = 32; omega))
     have HC2 := Lib.hid (cutTo_other hC hjl (by rw [← hc]; exact e))
     clear hC hc hci e
     go_wp2_with fail
     refine ⟨⟨j + 1, k, D, by omega, hk, by go_num, rfl, Lib.hid ⟨fun _ => HC2.out, fun h => by omega⟩, Lib.hid (by have := HL.out; omega), hown, hd⟩, by simp [intOf]; omega⟩
  ·obtain rfl : j = m + 1 := by omega
   have q1 : decide (((m + 1 : Nat) : Int) < (m : Int) + 1) = false := by simp
   have hwm : IntKind.wrap .i64 ((m : Int) + 1) = (m : Int) + 1 := by rw [IntKind.wrap_i64]; omega
   obtain rfl := HC.out.2 rfl
   obtain ⟨A, c0, rfl, _⟩ := own_shape hown
   obtain ⟨n, hn⟩ : ∃ n, n = (tCut l).length := ⟨_, rfl⟩
   have HN := Lib.hid hn
   rw [← hn] at hown ⊢
   have n0 : 0 < n := by
    obtain ⟨a, ws, e⟩ := cut_cons l
    rw [hn, e]; simp
   have hnl : n ≤ 1000000001 := by have := HCL.out; have := HM.out; omega
   obtain ⟨g, rfl, hg, hnc, hcm, wd⟩ := wd_own hown n0 hn
   unfold maxLen at hcm
   have b0 := b0.ext hd
   have hE := ext_trans hE0 hd
   have hg0 : w.heap.size ≠ g := by have := HZ0.out; omega
   clear hn hown hd hE0 HC HL hj hk hlt
   go_upto_region 13 with (fail)
   generalize hwn : World.alloc (World.alloc wr _) _ = w2
   have he : Ext wr w2 := by rw [← hwn]; exact (ext_alloc _ _).alloc (by simp) _
   have b8 : Box w2 wr.heap.size 24 #[.int .i64 0, .int .i64 0, .int .i64 0, .slice none 0 0] := by rw [← hwn]; exact (Box.new _ _ _ rfl).alloc _
   have b9 : Box w2 (wr.heap.size + 1) 9 (strs [kLit 0, kLit 1, kLit 2, kLit 3]).toArray := by rw [← hwn]; exact Box.new _ _ _ (by simp)
   have hg8 : g ≠ wr.heap.size := by have := wd.1; omega
   have hz8 : w.heap.size < wr.heap.size := b0.lt
   have b0 := b0.ext he
   have wd := wd.ext he
   have hE := ext_trans hE he
   obtain ⟨g8, hgg⟩ : ∃ x, x = wr.heap.size := ⟨_, rfl⟩
   rw [← hgg] at b8 b9 hg8 hz8 ⊢
   clear hwn he hgg
   obtain ⟨a, ha⟩ : ∃ a, a = (tCut l).getD 0 [] := ⟨_, rfl⟩
   have HA := Lib.hid ha
   have als := listOf a
   obtain ⟨ab, hab⟩ : ∃ z : ByteArray, z = ⟨a.toArray⟩ := ⟨_, rfl⟩
   rw [← hab] at als
   have HAB := Lib.hid hab
   clear ha hab
   go_loopw [47] (fun i wr => ∃ kk : Nat, kk ≤ 4 ∧ i = .int .i64 kk ∧ Box wr g8 24 #[.int .i64 (kf a kk), .int .i64 0, .int .i64 0, .slice none 0 0] ∧ Box wr (g8 + 1) 9 (strs [kLit 0, kLit 1, kLit 2, kLit 3]).toArray ∧ Box wr w.heap.size 24 #[.int .i64 0, .int .i64 0, .int .i64 0, .slice none 0 0] ∧ Wd wr g (tCut l) ∧ Ext w wr) (fun i _ => 4 - (intOf i).toNat)
   case atStart => exact ⟨0, by omega, rfl, b8, b9, b0, wd, hE⟩
   case round =>
    clear b8 b9 b0 wd hE
    obtain ⟨kk, hkk, rfl, b8, b9, b0, wd, hE⟩ := hrel
    by_cases hlt : kk < 4
    ·have c9 := b9.cell kk (v := .string ⟨(kLit kk).toArray⟩) (kLits_at kk hlt)
     have cw := wd.2 0 (by rw [← HN.out]; exact n0)
     rw [← HA.out, ← HAB.out] at cw
     have xls := listOf (kLit kk)
     obtain ⟨xb, hxb⟩ : ∃ z : ByteArray, z = ⟨(kLit kk).toArray⟩ := ⟨_, rfl⟩
     rw [← hxb] at c9 xls
     have k0 : (0 : Int) ≤ (kk : Int) := by omega
     have k4 : (kk : Int) < 4 := by omega
     have l8 := b8.lt
     clear hxb
     by_cases hk0 : kk = 0
     ·have q1 : decide ((0 : Int) < (kk : Int)) = false := by simp; omega
      have q2 : decide (0 < kk) = false := by simp; omega
      have HF : Hid (kf a (kk + 1) = kf a kk) := Lib.hid (if_neg (fun h => by omega))
      clear hk0 xls
      go_wp2_with fail
      refine ⟨⟨kk + 1, by omega, rfl, by rw [HF.out]; exact b8, b9, b0, wd, hE⟩, ?_⟩
      simp only [intOf]
      omega
     ·have q1 : decide ((0 : Int) < (kk : Int)) = true := by simp; omega
      have q2 : decide (0 < kk) = true := by simp; omega
      by_cases e : kLit kk = a
      ·have q3 : (xb.toList == ab.toList) = true := by rw [xls, als, e]; simp
       have HF : Hid (kf a (kk + 1) = (kk : Int)) := Lib.hid (if_pos ⟨by omega, e⟩)
       clear hk0 xls e als
       obtain ⟨b8_0, b8_1, b8_2, b8_3⟩ := b8.c4
       have b8_z := b8.free
       have b8_l := b8.lt
       go_wp2_with fail
       try clear b8_0 b8_1 b8_2 b8_3 b8_z b8_l
       refine ⟨⟨kk + 1, by omega, rfl, by rw [HF.out]; exact b8.set 0 _, b9.setOther (p := ⟨g8, 0, none⟩) (show g8 + 1 ≠ g8 by omega) _, b0.setOther (p := ⟨g8, 0, none⟩) (show w.heap.size ≠ g8 by omega) _, wd.set (p := ⟨g8, 0, none⟩) (show g8 ≠ g from fun h => hg8 h.symm) _, hE.setCell (by show w.heap.size ≤ g8; omega) _⟩, ?_⟩
       simp only [intOf]
       omega
      ·have q3 : (xb.toList == ab.toList) = false := by rw [xls, als]; simpa using e
       have HF : Hid (kf a (kk + 1) = kf a kk) := Lib.hid (if_neg (fun h => e h.2))
       clear hk0 xls e als
       go_wp2_with fail
       refine ⟨⟨kk + 1, by omega, rfl, by rw [HF.out]; exact b8, b9, b0, wd, hE⟩, ?_⟩
       simp only [intOf]
       omega
    ·obtain rfl : kk = 4 := by omega
     rw [kf_four] at b8
     have hz8b := hz8
     have e0 : (tCut l).headD [] = a := by rw [HA.out]; cases tCut l <;> rfl
     have hp0 : Hid (tParse l = if tKind a = 0 then (dZ, 1) else if n ≠ (if tKind a = 2 then 2 else 3) then (dZ, 2) else match tWords (tCut l) with
      | none => (dZ, 2)
      | some d => if mWrong d ≠ 0 then (dZ, mWrong d) else (d, 0)) := Lib.hid (by unfold tParse; rw [e0, HN.out]; rfl)
     have HK := Lib.hid e0
     have by8 : ByT wr 0 (.slice none 0 0) [] := ByT.nil _ _
     clear e0 b9 hlt hkk als
     have kc : tKind a = 0 ∨ tKind a = 1 ∨ tKind a = 2 ∨ tKind a = 3 := by
      rcases kind_cases a with ⟨_, e⟩ | ⟨_, e⟩ | ⟨_, e⟩ | e
      ·exact .inr (.inl e)
      ·exact .inr (.inr (.inl e))
      ·exact .inr (.inr (.inr e))
      ·exact .inl e
     rcases kc with kt | kt | kt | kt
     ·rw [kt] at b8 hp0
      have HP : Hid (tParse l = (dZ, 1)) := by rw [hp0.out, if_pos rfl]; exact Lib.hid rfl
      obtain ⟨b8_0, b8_1, b8_2, b8_3⟩ := b8.c4
      have b8_z := b8.free
      have b8_l := b8.lt
      clear kt hp0
      go_wp2_with fail
      try clear b8_0 b8_1 b8_2 b8_3 b8_z b8_l
      go_wp2_with fail
      refine (no_v _ _).mono ?_
      rintro e wz ⟨rfl, he⟩
      have b0 := b0.ext he
      have hE := ext_trans hE he
      clear he
      obtain ⟨y0, y1, y2, y3⟩ := b0.c4
      have yz := b0.free
      go_wp2_with fail
      ((try simp only [Exit.inBlock, Exit.then]); refine bodyPost_ret (v := ?_) ?resultOf rfl ?_; case resultOf => (rw [results_cell_tmp rfl]; go_simp; rfl))
      rw [HP.out]
      exact ⟨_, _, rfl, Lib.hid rfl, ded_zero _ _, by (repeat (with_reducible (first | assumption | exact Below.refl _ _ | refine Below.setCell ?_ (by simp <;> omega) _ | refine Below.alloc ?_ (by simp <;> omega) _ | refine Below.drew ?_ | refine below_drewN ?_ _)))⟩
     ·rw [kt] at b8 hp0
      have hp0 := Lib.hid (hp0.out.trans (if_neg (by decide)))
      have HK1 := Lib.hid (show tKind ((tCut l).headD []) = 1 by rw [HK.out]; exact kt)
      clear kt
      by_cases n3 : n = 3
      ·subst n3
       have hp0 := Lib.hid (hp0.out.trans (if_neg (by decide)))
       obtain ⟨b8_0, b8_1, b8_2, b8_3⟩ := b8.c4
       have b8_z := b8.free
       have b8_l := b8.lt
       go_upto_region 23 with (fail)
       try clear b8_0 b8_1 b8_2 b8_3 b8_z b8_l
       go_loopw [96] (fun i wr => ∃ (k : Nat) (v1 v2 : Int) (A8 : Option Addr) (n8 c8 : Nat) (dat : List UInt8), k ≤ 2 ∧ i = .int .i64 k ∧ Hid (stage 1 (tCut l) k = some ⟨1, v1, v2, dat⟩) ∧ Box wr g8 24 #[.int .i64 1, .int .i64 v1, .int .i64 v2, .slice A8 n8 c8] ∧ ByT wr 0 (.slice A8 n8 c8) dat ∧ Box wr w.heap.size 24 #[.int .i64 0, .int .i64 0, .int .i64 0, .slice none 0 0] ∧ Wd wr g (tCut l) ∧ Ext w wr) (fun i _ => 2 - (intOf i).toNat)
       case atStart => exact ⟨0, 0, 0, none, 0, 0, [], by omega, rfl, Lib.hid rfl, b8, ByT.nil _ _, b0, wd, hE⟩
       case round =>
        clear b8 by8 b0 wd hE
        obtain ⟨k, v1, v2, A8, n8, c8, dat, hk, rfl, HSt, b8, by8, b0, wd, hE⟩ := hrel
        rcases (show k = 0 ∨ k = 1 ∨ k = 2 by omega) with rfl | rfl | rfl
        ·skip
         obtain ⟨rfl, rfl, rfl⟩ : v1 = 0 ∧ v2 = 0 ∧ dat = [] := by
          have := HSt.out
          unfold stage at this
          injection this with this
          injection this with _ h1 h2 h3
          exact ⟨h1.symm, h2.symm, h3.symm⟩
         have HBAD := Lib.hid (fun h : tNum ((tCut l).getD 1 []) = none => (by rw [hp0.out, words_bad h]; exact Lib.hid rfl : Hid (tParse l = (dZ, 2))))
         rw [show ((0 : Nat) : Int) = 0 from rfl]
         have hwl : ((tCut l).getD 1 []).length ≤ 1000000000 := HS.out 1 (by have := HN.out; omega)
         have cw := wd.2 1 (by have := HN.out; omega)
         obtain ⟨word, hword⟩ : ∃ x, x = (tCut l).getD 1 [] := ⟨_, rfl⟩
         rw [← hword] at hwl cw
         have HW := Lib.hid hword
         have hA := atoi_v word (by omega) (hV.ext hE)
         have wls := listOf word
         obtain ⟨wb, hwb⟩ : ∃ z : ByteArray, z = ⟨word.toArray⟩ := ⟨_, rfl⟩
         rw [← hwb] at hA cw wls
         clear hwb hword
         obtain ⟨b8_0, b8_1, b8_2, b8_3⟩ := b8.c4
         have b8_z := b8.free
         have b8_l := b8.lt
         go_wp2_with (go_at_call 19; refine hA.mono ?_; refine Lib.hid ?_)
         try clear b8_0 b8_1 b8_2 b8_3 b8_z b8_l
         refine fun e w1 ⟨⟨v, x, he, h0, h1, hx⟩, he1⟩ => ?_
         subst he
         have he := he1
         clear he1 hA cw
         have b0 := b0.ext he
         have b8 := b8.ext he
         have wd := wd.ext he
         have by8 := by8.ext he
         have hE := ext_trans hE he
         clear he
         rcases hx.symm with ⟨⟨tp, p, rfl⟩, ha⟩ | ⟨rfl, ha⟩
         ·have HP : Hid (tParse l = (dZ, 2)) := HBAD.out (by rw [← HW.out]; exact tNum_none ha)
          clear ha hx wls
          go_wp2_with fail
          refine (no_v _ _).mono ?_
          rintro e wz ⟨rfl, he⟩
          have b0 := b0.ext he
          have hE := ext_trans hE he
          clear he
          obtain ⟨y0, y1, y2, y3⟩ := b0.c4
          have yz := b0.free
          go_wp2_with fail
          ((try simp only [Exit.inBlock, Exit.then]); refine bodyPost_ret (v := ?_) ?resultOf rfl ?_; case resultOf => (rw [results_cell_tmp rfl]; go_simp; rfl))
          rw [HP.out]
          exact ⟨_, _, rfl, Lib.hid rfl, ded_zero _ _, by (repeat (with_reducible (first | assumption | exact Below.refl _ _ | refine Below.setCell ?_ (by simp <;> omega) _ | refine Below.alloc ?_ (by simp <;> omega) _ | refine Below.drew ?_ | refine below_drewN ?_ _)))⟩
         have hI := itoa_v h0 h1 (hV.ext hE)
         have hl2 := listOf (Lib.itoa v)
         obtain ⟨r, hr⟩ : ∃ r : ByteArray, r = ⟨(Lib.itoa v).toArray⟩ := ⟨_, rfl⟩
         rw [← hr] at hI hl2
         clear hr hx
         by_cases q : ¬ (Lib.itoa v = word)
         ·have HP : Hid (tParse l = (dZ, 2)) := HBAD.out (by rw [← HW.out]; exact tNum_ne ha q)
          have q' : (r.toList == wb.toList) = false := by rw [hl2, wls]; simpa using q
          clear ha hl2 wls q
          go_wp2_with (go_at_call 20; refine hI.mono ?_; refine Lib.hid ?_)
          rintro e w2 ⟨rfl, he⟩
          have b0 := b0.ext he
          have b8 := b8.ext he
          have wd := wd.ext he
          have by8 := by8.ext he
          have hE := ext_trans hE he
          clear he
          go_wp2_with fail
          refine (no_v _ _).mono ?_
          rintro e wz ⟨rfl, he⟩
          have b0 := b0.ext he
          have hE := ext_trans hE he
          clear he
          obtain ⟨y0, y1, y2, y3⟩ := b0.c4
          have yz := b0.free
          go_wp2_with fail
          ((try simp only [Exit.inBlock, Exit.then]); refine bodyPost_ret (v := ?_) ?resultOf rfl ?_; case resultOf => (rw [results_cell_tmp rfl]; go_simp; rfl))
          rw [HP.out]
          exact ⟨_, _, rfl, Lib.hid rfl, ded_zero _ _, by (repeat (with_reducible (first | assumption | exact Below.refl _ _ | refine Below.setCell ?_ (by simp <;> omega) _ | refine Below.alloc ?_ (by simp <;> omega) _ | refine Below.drew ?_ | refine below_drewN ?_ _)))⟩
         have q := Decidable.not_not.1 q
         have HV := Lib.hid (tNum_ok ha q)
         rw [HW.out] at HV
         have q' : (r.toList == wb.toList) = true := by rw [hl2, wls]; simpa using q
         clear ha hl2 wls q
         obtain ⟨b8_0, b8_1, b8_2, b8_3⟩ := b8.c4
         have b8_z := b8.free
         have b8_l := b8.lt
         go_wp2_with (go_at_call 20; refine hI.mono ?_; refine Lib.hid ?_)
         try clear b8_0 b8_1 b8_2 b8_3 b8_z b8_l
         rintro e w2 ⟨rfl, he⟩
         have b0 := b0.ext he
         have b8 := b8.ext he
         have wd := wd.ext he
         have by8 := by8.ext he
         have hE := ext_trans hE he
         clear he
         obtain ⟨b8_0, b8_1, b8_2, b8_3⟩ := b8.c4
         have b8_z := b8.free
         have b8_l := b8.lt
         go_wp2_with fail
         try clear b8_0 b8_1 b8_2 b8_3 b8_z b8_l
         refine ⟨⟨_, _, _, _, _, _, _, _, _, _, _, _, _, _, _, _, _, _, _, _, _, _, _, _, _, _, _, _, _, _, _, _, _, _, _, _, _, _, _, _, _, _, _, _, _, _, _, _, _, _, _, _, _, _, _, _, ?_, rfl⟩, ?_⟩
         refine ⟨1, v, 0, A8, n8, c8, [], by omega, rfl, Lib.hid (by unfold stage; rw [HV.out]; rfl), b8.set 1 _, byt_one b8 by8, b0.setOther (p := ⟨g8, 1, none⟩) (show w.heap.size ≠ g8 by omega) _, wd.set (p := ⟨g8, 1, none⟩) (show g8 ≠ g from fun h => hg8 h.symm) _, hE.setCell (by show w.heap.size ≤ g8; omega) _⟩
         simp [intOf]
        ·skip
         obtain ⟨v0, hv0, rfl, rfl, rfl⟩ : ∃ v0, tNum ((tCut l).getD 1 []) = some v0 ∧ v1 = v0 ∧ v2 = 0 ∧ dat = [] := by
          have := HSt.out
          unfold stage at this
          cases hn : tNum ((tCut l).getD 1 []) with
          | none => rw [hn] at this; cases this
          | some v0 =>
           rw [hn] at this
           injection this with this
           injection this with _ h1 h2 h3
           exact ⟨v0, rfl, h1.symm, h2.symm, h3.symm⟩
         have HV0 := Lib.hid hv0
         clear hv0
         rw [show ((1 : Nat) : Int) = 1 from rfl]
         have hwl : ((tCut l).getD 2 []).length ≤ 1000000000 := HS.out 2 (by have := HN.out; omega)
         have cw := wd.2 2 (by have := HN.out; omega)
         have HW1 := Lib.hid (words_one HK1.out HV0.out)
         have hA := digits_v ((tCut l).getD 2 []) hwl wr
         generalize (tCut l).getD 2 [] = word at hA cw hwl HW1
         obtain ⟨wb, hwb⟩ : ∃ z : ByteArray, z = ⟨word.toArray⟩ := ⟨_, rfl⟩
         rw [← hwb] at hA cw
         clear hwb hwl
         obtain ⟨b8_0, b8_1, b8_2, b8_3⟩ := b8.c4
         have b8_z := b8.free
         have b8_l := b8.lt
         go_wp2_with (go_at_call 18; refine hA.mono ?_; refine Lib.hid ?_)
         try clear b8_0 b8_1 b8_2 b8_3 b8_z b8_l
         rintro e w1 ⟨u, bu, rfl, Hu, ⟨A9, n9, c9, rfl, Hby⟩, he⟩
         clear hA cw
         have b0 := b0.ext he
         have b8 := b8.ext he
         have wd := wd.ext he
         have by8 := by8.ext he
         have hE := ext_trans hE he
         clear he
         cases bu with
         | false =>
          have HP : Hid (tParse l = (dZ, 2)) := by
           have hn : unHex word = none := by
            cases hx : unHex word with
            | none => rfl
            | some z => have := Hu.out; rw [hx] at this; cases this
           rw [hp0.out, HW1.out, hn]
           exact Lib.hid rfl
          clear Hu Hby
          go_wp2_with fail
          refine (no_v _ _).mono ?_
          rintro e wz ⟨rfl, he⟩
          have b0 := b0.ext he
          have hE := ext_trans hE he
          clear he
          obtain ⟨y0, y1, y2, y3⟩ := b0.c4
          have yz := b0.free
          go_wp2_with fail
          ((try simp only [Exit.inBlock, Exit.then]); refine bodyPost_ret (v := ?_) ?resultOf rfl ?_; case resultOf => (rw [results_cell_tmp rfl]; go_simp; rfl))
          rw [HP.out]
          exact ⟨_, _, rfl, Lib.hid rfl, ded_zero _ _, by (repeat (with_reducible (first | assumption | exact Below.refl _ _ | refine Below.setCell ?_ (by simp <;> omega) _ | refine Below.alloc ?_ (by simp <;> omega) _ | refine Below.drew ?_ | refine below_drewN ?_ _)))⟩
         | true =>
          obtain ⟨x, hx⟩ : ∃ x, unHex word = some x := Option.isSome_iff_exists.1 Hu.out.symm
          have hby := Hby.out rfl
          rw [hx] at hby
          have HV := Lib.hid hx
          clear hx Hu Hby
          obtain ⟨b8_0, b8_1, b8_2, b8_3⟩ := b8.c4
          have b8_z := b8.free
          have b8_l := b8.lt
          go_wp2_with fail
          try clear b8_0 b8_1 b8_2 b8_3 b8_z b8_l
          refine ⟨⟨_, _, _, _, _, _, _, _, _, _, _, _, _, _, _, _, _, _, _, _, _, _, _, _, _, _, _, _, _, _, _, _, _, _, _, _, _, _, _, _, _, _, _, _, _, _, _, _, _, _, _, _, _, _, _, _, ?_, rfl⟩, ?_⟩
          refine ⟨2, v1, 0, A9, n9, c9, x, by omega, rfl, Lib.hid (by show tWords (tCut l) = _; rw [HW1.out, HV.out]; rfl), b8.set 3 _, byt_one b8 hby, b0.setOther (p := ⟨g8, 3, none⟩) (show w.heap.size ≠ g8 by omega) _, wd.set (p := ⟨g8, 3, none⟩) (show g8 ≠ g from fun h => hg8 h.symm) _, hE.setCell (by show w.heap.size ≤ g8; omega) _⟩
          simp [intOf]
        ·skip
         rw [show ((2 : Nat) : Int) = 2 from rfl]
         have HP1 : Hid (tParse l = if mWrong ⟨1, v1, v2, dat⟩ ≠ 0 then (dZ, mWrong ⟨1, v1, v2, dat⟩) else (⟨1, v1, v2, dat⟩, 0)) := by
          have h := HSt.out
          rw [show stage 1 (tCut l) 2 = tWords (tCut l) from rfl] at h
          rw [hp0.out, h]
          exact Lib.hid rfl
         have hded : DedV wr 0 (.agg #[.int .i64 1, .int .i64 v1, .int .i64 v2, .slice A8 n8 c8]) ⟨1, v1, v2, dat⟩ := ⟨_, rfl, by8⟩
         obtain ⟨b8_0, b8_1, b8_2, b8_3⟩ := b8.c4
         have b8_z := b8.free
         have b8_l := b8.lt
         go_wp2_with (go_at_call 9; refine (rWrongDeed_v hded).mono ?_; refine Lib.hid ?_)
         try clear b8_0 b8_1 b8_2 b8_3 b8_z b8_l
         rintro e w10 ⟨rfl, he⟩
         have hded := hded.ext he
         have b0 := b0.ext he
         have b8 := b8.ext he
         have wd := wd.ext he
         have by8 := by8.ext he
         have hE := ext_trans hE he
         clear he
         obtain ⟨d, hd⟩ : ∃ d : Ded, d = ⟨1, v1, v2, dat⟩ := ⟨_, rfl⟩
         rw [← hd] at hded HP1 ⊢
         clear hd
         obtain ⟨q, hq⟩ : ∃ q, q = mWrong d := ⟨_, rfl⟩
         rw [← hq] at HP1 ⊢
         clear hq
         by_cases z : q = 0
         ·have HP : Hid (tParse l = (d, 0)) := by rw [HP1.out, if_neg (by simpa using z)]; exact Lib.hid rfl
          subst z
          clear HP1
          obtain ⟨b8_0, b8_1, b8_2, b8_3⟩ := b8.c4
          have b8_z := b8.free
          have b8_l := b8.lt
          obtain ⟨b0_0, b0_1, b0_2, b0_3⟩ := b0.c4
          have b0_z := b0.free
          have b0_l := b0.lt
          go_wp2_with fail
          ((try simp only [Exit.inBlock, Exit.then]); refine bodyPost_ret (v := ?_) ?resultOf rfl ?_; case resultOf => (rw [results_cell_tmp rfl]; go_simp; rfl))
          try clear b8_0 b8_1 b8_2 b8_3 b8_z b8_l b0_0 b0_1 b0_2 b0_3 b0_z b0_l
          rw [HP.out]
          exact ⟨_, _, rfl, Lib.hid rfl, (ded_step b0 hded).all, by (repeat (with_reducible (first | assumption | exact Below.refl _ _ | refine Below.setCell ?_ (by simp <;> omega) _ | refine Below.alloc ?_ (by simp <;> omega) _ | refine Below.drew ?_ | refine below_drewN ?_ _)))⟩
         ·have HP : Hid (tParse l = (dZ, q)) := by rw [HP1.out, if_pos (by simpa using z)]; exact Lib.hid rfl
          have zq : (q != 0) = true := by simpa using z
          clear HP1 z
          go_wp2_with fail
          refine (no_v _ _).mono ?_
          rintro e wz ⟨rfl, he⟩
          have b0 := b0.ext he
          have hE := ext_trans hE he
          clear he
          obtain ⟨y0, y1, y2, y3⟩ := b0.c4
          have yz := b0.free
          go_wp2_with fail
          ((try simp only [Exit.inBlock, Exit.then]); refine bodyPost_ret (v := ?_) ?resultOf rfl ?_; case resultOf => (rw [results_cell_tmp rfl]; go_simp; rfl))
          rw [HP.out]
          exact ⟨_, _, rfl, Lib.hid rfl, ded_zero _ _, by (repeat (with_reducible (first | assumption | exact Below.refl _ _ | refine Below.setCell ?_ (by simp <;> omega) _ | refine Below.alloc ?_ (by simp <;> omega) _ | refine Below.drew ?_ | refine below_drewN ?_ _)))⟩
      ·have HP : Hid (tParse l = (dZ, 2)) := by rw [hp0.out, if_pos (by simpa using n3)]; exact Lib.hid rfl
       have q1 : ((n : Int) != 3) = true := by simp; omega
       obtain ⟨b8_0, b8_1, b8_2, b8_3⟩ := b8.c4
       have b8_z := b8.free
       have b8_l := b8.lt
       clear n3 hp0
       go_wp2_with fail
       try clear b8_0 b8_1 b8_2 b8_3 b8_z b8_l
       go_wp2_with fail
       refine (no_v _ _).mono ?_
       rintro e wz ⟨rfl, he⟩
       have b0 := b0.ext he
       have hE := ext_trans hE he
       clear he
       obtain ⟨y0, y1, y2, y3⟩ := b0.c4
       have yz := b0.free
       go_wp2_with fail
       ((try simp only [Exit.inBlock, Exit.then]); refine bodyPost_ret (v := ?_) ?resultOf rfl ?_; case resultOf => (rw [results_cell_tmp rfl]; go_simp; rfl))
       rw [HP.out]
       exact ⟨_, _, rfl, Lib.hid rfl, ded_zero _ _, by (repeat (with_reducible (first | assumption | exact Below.refl _ _ | refine Below.setCell ?_ (by simp <;> omega) _ | refine Below.alloc ?_ (by simp <;> omega) _ | refine Below.drew ?_ | refine below_drewN ?_ _)))⟩
     ·rw [kt] at b8 hp0
      have hp0 := Lib.hid (hp0.out.trans (if_neg (by decide)))
      have HK1 := Lib.hid (show tKind ((tCut l).headD []) = 2 by rw [HK.out]; exact kt)
      clear kt
      by_cases n3 : n = 2
      ·subst n3
       have hp0 := Lib.hid (hp0.out.trans (if_neg (by decide)))
       obtain ⟨b8_0, b8_1, b8_2, b8_3⟩ := b8.c4
       have b8_z := b8.free
       have b8_l := b8.lt
       go_upto_region 23 with (fail)
       try clear b8_0 b8_1 b8_2 b8_3 b8_z b8_l
       go_loopw [96] (fun i wr => ∃ (k : Nat) (v1 v2 : Int) (A8 : Option Addr) (n8 c8 : Nat) (dat : List UInt8), k ≤ 1 ∧ i = .int .i64 k ∧ Hid (stage 2 (tCut l) k = some ⟨2, v1, v2, dat⟩) ∧ Box wr g8 24 #[.int .i64 2, .int .i64 v1, .int .i64 v2, .slice A8 n8 c8] ∧ ByT wr 0 (.slice A8 n8 c8) dat ∧ Box wr w.heap.size 24 #[.int .i64 0, .int .i64 0, .int .i64 0, .slice none 0 0] ∧ Wd wr g (tCut l) ∧ Ext w wr) (fun i _ => 1 - (intOf i).toNat)
       case atStart => exact ⟨0, 0, 0, none, 0, 0, [], by omega, rfl, Lib.hid rfl, b8, ByT.nil _ _, b0, wd, hE⟩
       case round =>
        clear b8 by8 b0 wd hE
        obtain ⟨k, v1, v2, A8, n8, c8, dat, hk, rfl, HSt, b8, by8, b0, wd, hE⟩ := hrel
        rcases (show k = 0 ∨ k = 1 by omega) with rfl | rfl
        ·skip
         obtain ⟨rfl, rfl, rfl⟩ : v1 = 0 ∧ v2 = 0 ∧ dat = [] := by
          have := HSt.out
          unfold stage at this
          injection this with this
          injection this with _ h1 h2 h3
          exact ⟨h1.symm, h2.symm, h3.symm⟩
         have HBAD := Lib.hid (fun h : tNum ((tCut l).getD 1 []) = none => (by rw [hp0.out, words_bad h]; exact Lib.hid rfl : Hid (tParse l = (dZ, 2))))
         rw [show ((0 : Nat) : Int) = 0 from rfl]
         have hwl : ((tCut l).getD 1 []).length ≤ 1000000000 := HS.out 1 (by have := HN.out; omega)
         have cw := wd.2 1 (by have := HN.out; omega)
         obtain ⟨word, hword⟩ : ∃ x, x = (tCut l).getD 1 [] := ⟨_, rfl⟩
         rw [← hword] at hwl cw
         have HW := Lib.hid hword
         have hA := atoi_v word (by omega) (hV.ext hE)
         have wls := listOf word
         obtain ⟨wb, hwb⟩ : ∃ z : ByteArray, z = ⟨word.toArray⟩ := ⟨_, rfl⟩
         rw [← hwb] at hA cw wls
         clear hwb hword
         obtain ⟨b8_0, b8_1, b8_2, b8_3⟩ := b8.c4
         have b8_z := b8.free
         have b8_l := b8.lt
         go_wp2_with (go_at_call 19; refine hA.mono ?_; refine Lib.hid ?_)
         try clear b8_0 b8_1 b8_2 b8_3 b8_z b8_l
         refine fun e w1 ⟨⟨v, x, he, h0, h1, hx⟩, he1⟩ => ?_
         subst he
         have he := he1
         clear he1 hA cw
         have b0 := b0.ext he
         have b8 := b8.ext he
         have wd := wd.ext he
         have by8 := by8.ext he
         have hE := ext_trans hE he
         clear he
         rcases hx.symm with ⟨⟨tp, p, rfl⟩, ha⟩ | ⟨rfl, ha⟩
         ·have HP : Hid (tParse l = (dZ, 2)) := HBAD.out (by rw [← HW.out]; exact tNum_none ha)
          clear ha hx wls
          go_wp2_with fail
          refine (no_v _ _).mono ?_
          rintro e wz ⟨rfl, he⟩
          have b0 := b0.ext he
          have hE := ext_trans hE he
          clear he
          obtain ⟨y0, y1, y2, y3⟩ := b0.c4
          have yz := b0.free
          go_wp2_with fail
          ((try simp only [Exit.inBlock, Exit.then]); refine bodyPost_ret (v := ?_) ?resultOf rfl ?_; case resultOf => (rw [results_cell_tmp rfl]; go_simp; rfl))
          rw [HP.out]
          exact ⟨_, _, rfl, Lib.hid rfl, ded_zero _ _, by (repeat (with_reducible (first | assumption | exact Below.refl _ _ | refine Below.setCell ?_ (by simp <;> omega) _ | refine Below.alloc ?_ (by simp <;> omega) _ | refine Below.drew ?_ | refine below_drewN ?_ _)))⟩
         have hI := itoa_v h0 h1 (hV.ext hE)
         have hl2 := listOf (Lib.itoa v)
         obtain ⟨r, hr⟩ : ∃ r : ByteArray, r = ⟨(Lib.itoa v).toArray⟩ := ⟨_, rfl⟩
         rw [← hr] at hI hl2
         clear hr hx
         by_cases q : ¬ (Lib.itoa v = word)
         ·have HP : Hid (tParse l = (dZ, 2)) := HBAD.out (by rw [← HW.out]; exact tNum_ne ha q)
          have q' : (r.toList == wb.toList) = false := by rw [hl2, wls]; simpa using q
          clear ha hl2 wls q
          go_wp2_with (go_at_call 20; refine hI.mono ?_; refine Lib.hid ?_)
          rintro e w2 ⟨rfl, he⟩
          have b0 := b0.ext he
          have b8 := b8.ext he
          have wd := wd.ext he
          have by8 := by8.ext he
          have hE := ext_trans hE he
          clear he
          go_wp2_with fail
          refine (no_v _ _).mono ?_
          rintro e wz ⟨rfl, he⟩
          have b0 := b0.ext he
          have hE := ext_trans hE he
          clear he
          obtain ⟨y0, y1, y2, y3⟩ := b0.c4
          have yz := b0.free
          go_wp2_with fail
          ((try simp only [Exit.inBlock, Exit.then]); refine bodyPost_ret (v := ?_) ?resultOf rfl ?_; case resultOf => (rw [results_cell_tmp rfl]; go_simp; rfl))
          rw [HP.out]
          exact ⟨_, _, rfl, Lib.hid rfl, ded_zero _ _, by (repeat (with_reducible (first | assumption | exact Below.refl _ _ | refine Below.setCell ?_ (by simp <;> omega) _ | refine Below.alloc ?_ (by simp <;> omega) _ | refine Below.drew ?_ | refine below_drewN ?_ _)))⟩
         have q := Decidable.not_not.1 q
         have HV := Lib.hid (tNum_ok ha q)
         rw [HW.out] at HV
         have q' : (r.toList == wb.toList) = true := by rw [hl2, wls]; simpa using q
         clear ha hl2 wls q
         obtain ⟨b8_0, b8_1, b8_2, b8_3⟩ := b8.c4
         have b8_z := b8.free
         have b8_l := b8.lt
         go_wp2_with (go_at_call 20; refine hI.mono ?_; refine Lib.hid ?_)
         try clear b8_0 b8_1 b8_2 b8_3 b8_z b8_l
         rintro e w2 ⟨rfl, he⟩
         have b0 := b0.ext he
         have b8 := b8.ext he
         have wd := wd.ext he
         have by8 := by8.ext he
         have hE := ext_trans hE he
         clear he
         obtain ⟨b8_0, b8_1, b8_2, b8_3⟩ := b8.c4
         have b8_z := b8.free
         have b8_l := b8.lt
         go_wp2_with fail
         try clear b8_0 b8_1 b8_2 b8_3 b8_z b8_l
         refine ⟨⟨1, v, 0, A8, n8, c8, [], by omega, rfl, Lib.hid (by unfold stage; rw [HV.out]; rfl), b8.set 1 _, byt_one b8 by8, b0.setOther (p := ⟨g8, 1, none⟩) (show w.heap.size ≠ g8 by omega) _, wd.set (p := ⟨g8, 1, none⟩) (show g8 ≠ g from fun h => hg8 h.symm) _, hE.setCell (by show w.heap.size ≤ g8; omega) _⟩, ?_⟩
         simp [intOf]
        ·skip
         rw [show ((1 : Nat) : Int) = 1 from rfl]
         have HP1 : Hid (tParse l = if mWrong ⟨2, v1, v2, dat⟩ ≠ 0 then (dZ, mWrong ⟨2, v1, v2, dat⟩) else (⟨2, v1, v2, dat⟩, 0)) := by
          have h := HSt.out
          rw [← words_two HK1.out] at h
          rw [hp0.out, h]
          exact Lib.hid rfl
         have hded : DedV wr 0 (.agg #[.int .i64 2, .int .i64 v1, .int .i64 v2, .slice A8 n8 c8]) ⟨2, v1, v2, dat⟩ := ⟨_, rfl, by8⟩
         obtain ⟨b8_0, b8_1, b8_2, b8_3⟩ := b8.c4
         have b8_z := b8.free
         have b8_l := b8.lt
         go_wp2_with (go_at_call 9; refine (rWrongDeed_v hded).mono ?_; refine Lib.hid ?_)
         try clear b8_0 b8_1 b8_2 b8_3 b8_z b8_l
         rintro e w10 ⟨rfl, he⟩
         have hded := hded.ext he
         have b0 := b0.ext he
         have b8 := b8.ext he
         have wd := wd.ext he
         have by8 := by8.ext he
         have hE := ext_trans hE he
         clear he
         obtain ⟨d, hd⟩ : ∃ d : Ded, d = ⟨2, v1, v2, dat⟩ := ⟨_, rfl⟩
         rw [← hd] at hded HP1 ⊢
         clear hd
         obtain ⟨q, hq⟩ : ∃ q, q = mWrong d := ⟨_, rfl⟩
         rw [← hq] at HP1 ⊢
         clear hq
         by_cases z : q = 0
         ·have HP : Hid (tParse l = (d, 0)) := by rw [HP1.out, if_neg (by simpa using z)]; exact Lib.hid rfl
          subst z
          clear HP1
          obtain ⟨b8_0, b8_1, b8_2, b8_3⟩ := b8.c4
          have b8_z := b8.free
          have b8_l := b8.lt
          obtain ⟨b0_0, b0_1, b0_2, b0_3⟩ := b0.c4
          have b0_z := b0.free
          have b0_l := b0.lt
          go_wp2_with fail
          ((try simp only [Exit.inBlock, Exit.then]); refine bodyPost_ret (v := ?_) ?resultOf rfl ?_; case resultOf => (rw [results_cell_tmp rfl]; go_simp; rfl))
          try clear b8_0 b8_1 b8_2 b8_3 b8_z b8_l b0_0 b0_1 b0_2 b0_3 b0_z b0_l
          rw [HP.out]
          exact ⟨_, _, rfl, Lib.hid rfl, (ded_step b0 hded).all, by (repeat (with_reducible (first | assumption | exact Below.refl _ _ | refine Below.setCell ?_ (by simp <;> omega) _ | refine Below.alloc ?_ (by simp <;> omega) _ | refine Below.drew ?_ | refine below_drewN ?_ _)))⟩
         ·have HP : Hid (tParse l = (dZ, q)) := by rw [HP1.out, if_pos (by simpa using z)]; exact Lib.hid rfl
          have zq : (q != 0) = true := by simpa using z
          clear HP1 z
          go_wp2_with fail
          refine (no_v _ _).mono ?_
          rintro e wz ⟨rfl, he⟩
          have b0 := b0.ext he
          have hE := ext_trans hE he
          clear he
          obtain ⟨y0, y1, y2, y3⟩ := b0.c4
          have yz := b0.free
          go_wp2_with fail
          ((try simp only [Exit.inBlock, Exit.then]); refine bodyPost_ret (v := ?_) ?resultOf rfl ?_; case resultOf => (rw [results_cell_tmp rfl]; go_simp; rfl))
          rw [HP.out]
          exact ⟨_, _, rfl, Lib.hid rfl, ded_zero _ _, by (repeat (with_reducible (first | assumption | exact Below.refl _ _ | refine Below.setCell ?_ (by simp <;> omega) _ | refine Below.alloc ?_ (by simp <;> omega) _ | refine Below.drew ?_ | refine below_drewN ?_ _)))⟩
      ·have HP : Hid (tParse l = (dZ, 2)) := by rw [hp0.out, if_pos (by simpa using n3)]; exact Lib.hid rfl
       by_cases n33 : n = 3
       ·subst n33
        obtain ⟨b8_0, b8_1, b8_2, b8_3⟩ := b8.c4
        have b8_z := b8.free
        have b8_l := b8.lt
        clear n3 hp0
        go_wp2_with fail
        try clear b8_0 b8_1 b8_2 b8_3 b8_z b8_l
        go_wp2_with fail
        refine (no_v _ _).mono ?_
        rintro e wz ⟨rfl, he⟩
        have b0 := b0.ext he
        have hE := ext_trans hE he
        clear he
        obtain ⟨y0, y1, y2, y3⟩ := b0.c4
        have yz := b0.free
        go_wp2_with fail
        ((try simp only [Exit.inBlock, Exit.then]); refine bodyPost_ret (v := ?_) ?resultOf rfl ?_; case resultOf => (rw [results_cell_tmp rfl]; go_simp; rfl))
        rw [HP.out]
        exact ⟨_, _, rfl, Lib.hid rfl, ded_zero _ _, by (repeat (with_reducible (first | assumption | exact Below.refl _ _ | refine Below.setCell ?_ (by simp <;> omega) _ | refine Below.alloc ?_ (by simp <;> omega) _ | refine Below.drew ?_ | refine below_drewN ?_ _)))⟩
       have q1 : ((n : Int) != 2) = true := by simp; omega
       have q2 : ((n : Int) != 3) = true := by simp; omega
       obtain ⟨b8_0, b8_1, b8_2, b8_3⟩ := b8.c4
       have b8_z := b8.free
       have b8_l := b8.lt
       clear n3 hp0 n33
       go_wp2_with fail
       try clear b8_0 b8_1 b8_2 b8_3 b8_z b8_l
       go_wp2_with fail
       refine (no_v _ _).mono ?_
       rintro e wz ⟨rfl, he⟩
       have b0 := b0.ext he
       have hE := ext_trans hE he
       clear he
       obtain ⟨y0, y1, y2, y3⟩ := b0.c4
       have yz := b0.free
       go_wp2_with fail
       ((try simp only [Exit.inBlock, Exit.then]); refine bodyPost_ret (v := ?_) ?resultOf rfl ?_; case resultOf => (rw [results_cell_tmp rfl]; go_simp; rfl))
       rw [HP.out]
       exact ⟨_, _, rfl, Lib.hid rfl, ded_zero _ _, by (repeat (with_reducible (first | assumption | exact Below.refl _ _ | refine Below.setCell ?_ (by simp <;> omega) _ | refine Below.alloc ?_ (by simp <;> omega) _ | refine Below.drew ?_ | refine below_drewN ?_ _)))⟩
     ·rw [kt] at b8 hp0
      have hp0 := Lib.hid (hp0.out.trans (if_neg (by decide)))
      have HK1 := Lib.hid (show tKind ((tCut l).headD []) = 3 by rw [HK.out]; exact kt)
      clear kt
      by_cases n3 : n = 3
      ·subst n3
       have hp0 := Lib.hid (hp0.out.trans (if_neg (by decide)))
       obtain ⟨b8_0, b8_1, b8_2, b8_3⟩ := b8.c4
       have b8_z := b8.free
       have b8_l := b8.lt
       go_upto_region 23 with (fail)
       try clear b8_0 b8_1 b8_2 b8_3 b8_z b8_l
       go_loopw [96] (fun i wr => ∃ (k : Nat) (v1 v2 : Int) (A8 : Option Addr) (n8 c8 : Nat) (dat : List UInt8), k ≤ 2 ∧ i = .int .i64 k ∧ Hid (stage 3 (tCut l) k = some ⟨3, v1, v2, dat⟩) ∧ Box wr g8 24 #[.int .i64 3, .int .i64 v1, .int .i64 v2, .slice A8 n8 c8] ∧ ByT wr 0 (.slice A8 n8 c8) dat ∧ Box wr w.heap.size 24 #[.int .i64 0, .int .i64 0, .int .i64 0, .slice none 0 0] ∧ Wd wr g (tCut l) ∧ Ext w wr) (fun i _ => 2 - (intOf i).toNat)
       case atStart => exact ⟨0, 0, 0, none, 0, 0, [], by omega, rfl, Lib.hid rfl, b8, ByT.nil _ _, b0, wd, hE⟩
       case round =>
        clear b8 by8 b0 wd hE
        obtain ⟨k, v1, v2, A8, n8, c8, dat, hk, rfl, HSt, b8, by8, b0, wd, hE⟩ := hrel
        rcases (show k = 0 ∨ k = 1 ∨ k = 2 by omega) with rfl | rfl | rfl
        ·skip
         obtain ⟨rfl, rfl, rfl⟩ : v1 = 0 ∧ v2 = 0 ∧ dat = [] := by
          have := HSt.out
          unfold stage at this
          injection this with this
          injection this with _ h1 h2 h3
          exact ⟨h1.symm, h2.symm, h3.symm⟩
         have HBAD := Lib.hid (fun h : tNum ((tCut l).getD 1 []) = none => (by rw [hp0.out, words_bad h]; exact Lib.hid rfl : Hid (tParse l = (dZ, 2))))
         rw [show ((0 : Nat) : Int) = 0 from rfl]
         have hwl : ((tCut l).getD 1 []).length ≤ 1000000000 := HS.out 1 (by have := HN.out; omega)
         have cw := wd.2 1 (by have := HN.out; omega)
         obtain ⟨word, hword⟩ : ∃ x, x = (tCut l).getD 1 [] := ⟨_, rfl⟩
         rw [← hword] at hwl cw
         have HW := Lib.hid hword
         have hA := atoi_v word (by omega) (hV.ext hE)
         have wls := listOf word
         obtain ⟨wb, hwb⟩ : ∃ z : ByteArray, z = ⟨word.toArray⟩ := ⟨_, rfl⟩
         rw [← hwb] at hA cw wls
         clear hwb hword
         obtain ⟨b8_0, b8_1, b8_2, b8_3⟩ := b8.c4
         have b8_z := b8.free
         have b8_l := b8.lt
         go_wp2_with (go_at_call 19; refine hA.mono ?_; refine Lib.hid ?_)
         try clear b8_0 b8_1 b8_2 b8_3 b8_z b8_l
         refine fun e w1 ⟨⟨v, x, he, h0, h1, hx⟩, he1⟩ => ?_
         subst he
         have he := he1
         clear he1 hA cw
         have b0 := b0.ext he
         have b8 := b8.ext he
         have wd := wd.ext he
         have by8 := by8.ext he
         have hE := ext_trans hE he
         clear he
         rcases hx.symm with ⟨⟨tp, p, rfl⟩, ha⟩ | ⟨rfl, ha⟩
         ·have HP : Hid (tParse l = (dZ, 2)) := HBAD.out (by rw [← HW.out]; exact tNum_none ha)
          clear ha hx wls
          go_wp2_with fail
          refine (no_v _ _).mono ?_
          rintro e wz ⟨rfl, he⟩
          have b0 := b0.ext he
          have hE := ext_trans hE he
          clear he
          obtain ⟨y0, y1, y2, y3⟩ := b0.c4
          have yz := b0.free
          go_wp2_with fail
          ((try simp only [Exit.inBlock, Exit.then]); refine bodyPost_ret (v := ?_) ?resultOf rfl ?_; case resultOf => (rw [results_cell_tmp rfl]; go_simp; rfl))
          rw [HP.out]
          exact ⟨_, _, rfl, Lib.hid rfl, ded_zero _ _, by (repeat (with_reducible (first | assumption | exact Below.refl _ _ | refine Below.setCell ?_ (by simp <;> omega) _ | refine Below.alloc ?_ (by simp <;> omega) _ | refine Below.drew ?_ | refine below_drewN ?_ _)))⟩
         have hI := itoa_v h0 h1 (hV.ext hE)
         have hl2 := listOf (Lib.itoa v)
         obtain ⟨r, hr⟩ : ∃ r : ByteArray, r = ⟨(Lib.itoa v).toArray⟩ := ⟨_, rfl⟩
         rw [← hr] at hI hl2
         clear hr hx
         by_cases q : ¬ (Lib.itoa v = word)
         ·have HP : Hid (tParse l = (dZ, 2)) := HBAD.out (by rw [← HW.out]; exact tNum_ne ha q)
          have q' : (r.toList == wb.toList) = false := by rw [hl2, wls]; simpa using q
          clear ha hl2 wls q
          go_wp2_with (go_at_call 20; refine hI.mono ?_; refine Lib.hid ?_)
          rintro e w2 ⟨rfl, he⟩
          have b0 := b0.ext he
          have b8 := b8.ext he
          have wd := wd.ext he
          have by8 := by8.ext he
          have hE := ext_trans hE he
          clear he
          go_wp2_with fail
          refine (no_v _ _).mono ?_
          rintro e wz ⟨rfl, he⟩
          have b0 := b0.ext he
          have hE := ext_trans hE he
          clear he
          obtain ⟨y0, y1, y2, y3⟩ := b0.c4
          have yz := b0.free
          go_wp2_with fail
          ((try simp only [Exit.inBlock, Exit.then]); refine bodyPost_ret (v := ?_) ?resultOf rfl ?_; case resultOf => (rw [results_cell_tmp rfl]; go_simp; rfl))
          rw [HP.out]
          exact ⟨_, _, rfl, Lib.hid rfl, ded_zero _ _, by (repeat (with_reducible (first | assumption | exact Below.refl _ _ | refine Below.setCell ?_ (by simp <;> omega) _ | refine Below.alloc ?_ (by simp <;> omega) _ | refine Below.drew ?_ | refine below_drewN ?_ _)))⟩
         have q := Decidable.not_not.1 q
         have HV := Lib.hid (tNum_ok ha q)
         rw [HW.out] at HV
         have q' : (r.toList == wb.toList) = true := by rw [hl2, wls]; simpa using q
         clear ha hl2 wls q
         obtain ⟨b8_0, b8_1, b8_2, b8_3⟩ := b8.c4
         have b8_z := b8.free
         have b8_l := b8.lt
         go_wp2_with (go_at_call 20; refine hI.mono ?_; refine Lib.hid ?_)
         try clear b8_0 b8_1 b8_2 b8_3 b8_z b8_l
         rintro e w2 ⟨rfl, he⟩
         have b0 := b0.ext he
         have b8 := b8.ext he
         have wd := wd.ext he
         have by8 := by8.ext he
         have hE := ext_trans hE he
         clear he
         obtain ⟨b8_0, b8_1, b8_2, b8_3⟩ := b8.c4
         have b8_z := b8.free
         have b8_l := b8.lt
         go_wp2_with fail
         try clear b8_0 b8_1 b8_2 b8_3 b8_z b8_l
         refine ⟨⟨_, _, _, _, _, _, _, _, _, _, _, _, _, _, _, _, _, _, _, _, _, _, _, _, _, _, _, _, _, _, _, _, _, _, _, _, _, _, _, _, _, _, _, _, _, _, _, _, _, _, _, _, _, _, _, _, ?_, rfl⟩, ?_⟩
         refine ⟨1, v, 0, A8, n8, c8, [], by omega, rfl, Lib.hid (by unfold stage; rw [HV.out]; rfl), b8.set 1 _, byt_one b8 by8, b0.setOther (p := ⟨g8, 1, none⟩) (show w.heap.size ≠ g8 by omega) _, wd.set (p := ⟨g8, 1, none⟩) (show g8 ≠ g from fun h => hg8 h.symm) _, hE.setCell (by show w.heap.size ≤ g8; omega) _⟩
         simp [intOf]
        ·skip
         obtain ⟨v0, hv0, rfl, rfl, rfl⟩ : ∃ v0, tNum ((tCut l).getD 1 []) = some v0 ∧ v1 = v0 ∧ v2 = 0 ∧ dat = [] := by
          have := HSt.out
          unfold stage at this
          cases hn : tNum ((tCut l).getD 1 []) with
          | none => rw [hn] at this; cases this
          | some v0 =>
           rw [hn] at this
           injection this with this
           injection this with _ h1 h2 h3
           exact ⟨v0, rfl, h1.symm, h2.symm, h3.symm⟩
         have HV0 := Lib.hid hv0
         clear hv0
         rw [show ((1 : Nat) : Int) = 1 from rfl]
         have HW1 := Lib.hid (words_three HK1.out HV0.out)
         have HBAD := Lib.hid (fun h : tNum ((tCut l).getD 2 []) = none => (by rw [hp0.out, HW1.out, h]; exact Lib.hid rfl : Hid (tParse l = (dZ, 2))))
         have hwl : ((tCut l).getD 2 []).length ≤ 1000000000 := HS.out 2 (by have := HN.out; omega)
         have cw := wd.2 2 (by have := HN.out; omega)
         obtain ⟨word, hword⟩ : ∃ x, x = (tCut l).getD 2 [] := ⟨_, rfl⟩
         rw [← hword] at hwl cw
         have HW := Lib.hid hword
         have hA := atoi_v word (by omega) (hV.ext hE)
         have wls := listOf word
         obtain ⟨wb, hwb⟩ : ∃ z : ByteArray, z = ⟨word.toArray⟩ := ⟨_, rfl⟩
         rw [← hwb] at hA cw wls
         clear hwb hword
         obtain ⟨b8_0, b8_1, b8_2, b8_3⟩ := b8.c4
         have b8_z := b8.free
         have b8_l := b8.lt
         go_wp2_with (go_at_call 19; refine hA.mono ?_; refine Lib.hid ?_)
         try clear b8_0 b8_1 b8_2 b8_3 b8_z b8_l
         refine fun e w1 ⟨⟨v, x, he, h0, h1, hx⟩, he1⟩ => ?_
         subst he
         have he := he1
         clear he1 hA cw
         have b0 := b0.ext he
         have b8 := b8.ext he
         have wd := wd.ext he
         have by8 := by8.ext he
         have hE := ext_trans hE he
         clear he
         rcases hx.symm with ⟨⟨tp, p, rfl⟩, ha⟩ | ⟨rfl, ha⟩
         ·have HP : Hid (tParse l = (dZ, 2)) := HBAD.out (by rw [← HW.out]; exact tNum_none ha)
          clear ha hx wls
          go_wp2_with fail
          refine (no_v _ _).mono ?_
          rintro e wz ⟨rfl, he⟩
          have b0 := b0.ext he
          have hE := ext_trans hE he
          clear he
          obtain ⟨y0, y1, y2, y3⟩ := b0.c4
          have yz := b0.free
          go_wp2_with fail
          ((try simp only [Exit.inBlock, Exit.then]); refine bodyPost_ret (v := ?_) ?resultOf rfl ?_; case resultOf => (rw [results_cell_tmp rfl]; go_simp; rfl))
          rw [HP.out]
          exact ⟨_, _, rfl, Lib.hid rfl, ded_zero _ _, by (repeat (with_reducible (first | assumption | exact Below.refl _ _ | refine Below.setCell ?_ (by simp <;> omega) _ | refine Below.alloc ?_ (by simp <;> omega) _ | refine Below.drew ?_ | refine below_drewN ?_ _)))⟩
         have hI := itoa_v h0 h1 (hV.ext hE)
         have hl2 := listOf (Lib.itoa v)
         obtain ⟨r, hr⟩ : ∃ r : ByteArray, r = ⟨(Lib.itoa v).toArray⟩ := ⟨_, rfl⟩
         rw [← hr] at hI hl2
         clear hr hx
         by_cases q : ¬ (Lib.itoa v = word)
         ·have HP : Hid (tParse l = (dZ, 2)) := HBAD.out (by rw [← HW.out]; exact tNum_ne ha q)
          have q' : (r.toList == wb.toList) = false := by rw [hl2, wls]; simpa using q
          clear ha hl2 wls q
          go_wp2_with (go_at_call 20; refine hI.mono ?_; refine Lib.hid ?_)
          rintro e w2 ⟨rfl, he⟩
          have b0 := b0.ext he
          have b8 := b8.ext he
          have wd := wd.ext he
          have by8 := by8.ext he
          have hE := ext_trans hE he
          clear he
          go_wp2_with fail
          refine (no_v _ _).mono ?_
          rintro e wz ⟨rfl, he⟩
          have b0 := b0.ext he
          have hE := ext_trans hE he
          clear he
          obtain ⟨y0, y1, y2, y3⟩ := b0.c4
          have yz := b0.free
          go_wp2_with fail
          ((try simp only [Exit.inBlock, Exit.then]); refine bodyPost_ret (v := ?_) ?resultOf rfl ?_; case resultOf => (rw [results_cell_tmp rfl]; go_simp; rfl))
          rw [HP.out]
          exact ⟨_, _, rfl, Lib.hid rfl, ded_zero _ _, by (repeat (with_reducible (first | assumption | exact Below.refl _ _ | refine Below.setCell ?_ (by simp <;> omega) _ | refine Below.alloc ?_ (by simp <;> omega) _ | refine Below.drew ?_ | refine below_drewN ?_ _)))⟩
         have q := Decidable.not_not.1 q
         have HV := Lib.hid (tNum_ok ha q)
         rw [HW.out] at HV
         have q' : (r.toList == wb.toList) = true := by rw [hl2, wls]; simpa using q
         clear ha hl2 wls q
         obtain ⟨b8_0, b8_1, b8_2, b8_3⟩ := b8.c4
         have b8_z := b8.free
         have b8_l := b8.lt
         go_wp2_with (go_at_call 20; refine hI.mono ?_; refine Lib.hid ?_)
         try clear b8_0 b8_1 b8_2 b8_3 b8_z b8_l
         rintro e w2 ⟨rfl, he⟩
         have b0 := b0.ext he
         have b8 := b8.ext he
         have wd := wd.ext he
         have by8 := by8.ext he
         have hE := ext_trans hE he
         clear he
         obtain ⟨b8_0, b8_1, b8_2, b8_3⟩ := b8.c4
         have b8_z := b8.free
         have b8_l := b8.lt
         go_wp2_with fail
         try clear b8_0 b8_1 b8_2 b8_3 b8_z b8_l
         refine ⟨⟨_, _, _, _, _, _, _, _, _, _, _, _, _, _, _, _, _, _, _, _, _, _, _, _, _, _, _, _, _, _, _, _, _, _, _, _, _, _, _, _, _, _, _, _, _, _, _, _, _, _, _, _, _, _, _, _, ?_, rfl⟩, ?_⟩
         refine ⟨2, v1, v, A8, n8, c8, [], by omega, rfl, Lib.hid (by show tWords (tCut l) = _; rw [HW1.out, HV.out]; rfl), b8.set 2 _, byt_one b8 by8, b0.setOther (p := ⟨g8, 2, none⟩) (show w.heap.size ≠ g8 by omega) _, wd.set (p := ⟨g8, 2, none⟩) (show g8 ≠ g from fun h => hg8 h.symm) _, hE.setCell (by show w.heap.size ≤ g8; omega) _⟩
         simp [intOf]
        ·skip
         rw [show ((2 : Nat) : Int) = 2 from rfl]
         have HP1 : Hid (tParse l = if mWrong ⟨3, v1, v2, dat⟩ ≠ 0 then (dZ, mWrong ⟨3, v1, v2, dat⟩) else (⟨3, v1, v2, dat⟩, 0)) := by
          have h := HSt.out
          rw [show stage 3 (tCut l) 2 = tWords (tCut l) from rfl] at h
          rw [hp0.out, h]
          exact Lib.hid rfl
         have hded : DedV wr 0 (.agg #[.int .i64 3, .int .i64 v1, .int .i64 v2, .slice A8 n8 c8]) ⟨3, v1, v2, dat⟩ := ⟨_, rfl, by8⟩
         obtain ⟨b8_0, b8_1, b8_2, b8_3⟩ := b8.c4
         have b8_z := b8.free
         have b8_l := b8.lt
         go_wp2_with (go_at_call 9; refine (rWrongDeed_v hded).mono ?_; refine Lib.hid ?_)
         try clear b8_0 b8_1 b8_2 b8_3 b8_z b8_l
         rintro e w10 ⟨rfl, he⟩
         have hded := hded.ext he
         have b0 := b0.ext he
         have b8 := b8.ext he
         have wd := wd.ext he
         have by8 := by8.ext he
         have hE := ext_trans hE he
         clear he
         obtain ⟨d, hd⟩ : ∃ d : Ded, d = ⟨3, v1, v2, dat⟩ := ⟨_, rfl⟩
         rw [← hd] at hded HP1 ⊢
         clear hd
         obtain ⟨q, hq⟩ : ∃ q, q = mWrong d := ⟨_, rfl⟩
         rw [← hq] at HP1 ⊢
         clear hq
         by_cases z : q = 0
         ·have HP : Hid (tParse l = (d, 0)) := by rw [HP1.out, if_neg (by simpa using z)]; exact Lib.hid rfl
          subst z
          clear HP1
          obtain ⟨b8_0, b8_1, b8_2, b8_3⟩ := b8.c4
          have b8_z := b8.free
          have b8_l := b8.lt
          obtain ⟨b0_0, b0_1, b0_2, b0_3⟩ := b0.c4
          have b0_z := b0.free
          have b0_l := b0.lt
          go_wp2_with fail
          ((try simp only [Exit.inBlock, Exit.then]); refine bodyPost_ret (v := ?_) ?resultOf rfl ?_; case resultOf => (rw [results_cell_tmp rfl]; go_simp; rfl))
          try clear b8_0 b8_1 b8_2 b8_3 b8_z b8_l b0_0 b0_1 b0_2 b0_3 b0_z b0_l
          rw [HP.out]
          exact ⟨_, _, rfl, Lib.hid rfl, (ded_step b0 hded).all, by (repeat (with_reducible (first | assumption | exact Below.refl _ _ | refine Below.setCell ?_ (by simp <;> omega) _ | refine Below.alloc ?_ (by simp <;> omega) _ | refine Below.drew ?_ | refine below_drewN ?_ _)))⟩
         ·have HP : Hid (tParse l = (dZ, q)) := by rw [HP1.out, if_pos (by simpa using z)]; exact Lib.hid rfl
          have zq : (q != 0) = true := by simpa using z
          clear HP1 z
          go_wp2_with fail
          refine (no_v _ _).mono ?_
          rintro e wz ⟨rfl, he⟩
          have b0 := b0.ext he
          have hE := ext_trans hE he
          clear he
          obtain ⟨y0, y1, y2, y3⟩ := b0.c4
          have yz := b0.free
          go_wp2_with fail
          ((try simp only [Exit.inBlock, Exit.then]); refine bodyPost_ret (v := ?_) ?resultOf rfl ?_; case resultOf => (rw [results_cell_tmp rfl]; go_simp; rfl))
          rw [HP.out]
          exact ⟨_, _, rfl, Lib.hid rfl, ded_zero _ _, by (repeat (with_reducible (first | assumption | exact Below.refl _ _ | refine Below.setCell ?_ (by simp <;> omega) _ | refine Below.alloc ?_ (by simp <;> omega) _ | refine Below.drew ?_ | refine below_drewN ?_ _)))⟩
      ·have HP : Hid (tParse l = (dZ, 2)) := by rw [hp0.out, if_pos (by simpa using n3)]; exact Lib.hid rfl
       have q1 : ((n : Int) != 3) = true := by simp; omega
       obtain ⟨b8_0, b8_1, b8_2, b8_3⟩ := b8.c4
       have b8_z := b8.free
       have b8_l := b8.lt
       clear n3 hp0
       go_wp2_with fail
       try clear b8_0 b8_1 b8_2 b8_3 b8_z b8_l
       go_wp2_with fail
       refine (no_v _ _).mono ?_
       rintro e wz ⟨rfl, he⟩
       have b0 := b0.ext he
       have hE := ext_trans hE he
       clear he
       obtain ⟨y0, y1, y2, y3⟩ := b0.c4
       have yz := b0.free
       go_wp2_with fail
       ((try simp only [Exit.inBlock, Exit.then]); refine bodyPost_ret (v := ?_) ?resultOf rfl ?_; case resultOf => (rw [results_cell_tmp rfl]; go_simp; rfl))
       rw [HP.out]
       exact ⟨_, _, rfl, Lib.hid rfl, ded_zero _ _, by (repeat (with_reducible (first | assumption | exact Below.refl _ _ | refine Below.setCell ?_ (by simp <;> omega) _ | refine Below.alloc ?_ (by simp <;> omega) _ | refine Below.drew ?_ | refine below_drewN ?_ _)))⟩
end Go.Proofs.YtdmnmfnmaccmoaaDoor
