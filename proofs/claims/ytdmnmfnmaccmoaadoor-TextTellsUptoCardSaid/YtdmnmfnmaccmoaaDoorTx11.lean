/- Walks of chapter 7: the document's digits. -/
import Derived.Test.YtdmnmfnmaccmoaaDoorTx10
namespace Go.Proofs.YtdmnmfnmaccmoaaDoor
open Go Go.RowKit
theorem take_set_w {α : Type} (l : List α) (n i : Nat) (x : α) : (l.set i x).take n = (l.take n).set i x := by
 apply List.ext_getElem?
 intro j
 rw [List.getElem?_take, List.getElem?_set, List.getElem?_set, List.getElem?_take, List.length_take]
 by_cases h1 : j < n
 ·by_cases h2 : i = j
  ·subst h2
   simp only [h1, if_true]
   by_cases h3 : i < l.length
   ·rw [if_pos h3, if_pos (by omega)]
   ·rw [if_neg h3, if_neg (by omega)]
  ·simp [h1, h2]
 ·by_cases h2 : i = j
  ·subst h2
   simp only [h1, if_false, if_true]
   rw [if_neg (by omega)]
  ·simp [h1, h2]
theorem own_setW {w : World} {rb e n c i : Nat} {A : Option Addr} {vs : List Value} (h : w.ownsRow rb e 1 (.slice A n c) n vs) (hi : i < n) :
  ∃ g, A = some ⟨g, 0, none⟩ ∧ rb ≤ g ∧ Kd w g e ∧ w.frozen? ⟨g, i, none⟩ = false ∧ w.cell? ⟨g, i, none⟩ = vs[i]? ∧ ∀ u, (w.setCell ⟨g, i, none⟩ u).ownsRow rb e 1 (.slice A n c) n (vs.set i u) := by
 obtain ⟨hl, h⟩ := h
 rcases h with ⟨_, h⟩ | ⟨g, cap, cur, hv, hg, hh, hc, hm, hs, ht⟩
 ·omega
 ·injection hv with h1 h2 h3
  subst h1 h3
  refine ⟨g, rfl, hg, ⟨cur, hh⟩, by simp [World.frozen?, hh], ?_, fun u => ⟨by rw [List.length_set, hl], .inr ⟨g, c, cur.setIfInBounds i u, rfl, hg, ?_, hc, hm, by simpa using hs, ?_⟩⟩⟩
  ·rw [← ht, List.getElem?_take, if_pos (by omega)]
   simp [World.cell?, hh]
  ·simp [World.setCell, Array.getElem?_modify, hh]
  ·rw [Array.toList_setIfInBounds, take_set_w, ht]
theorem u8s_nth {l : List UInt8} {k : Nat} (h : k < l.length) : (u8s l)[k]? = some (.int .u8 ((l.getD k 0).toNat : Int)) := by
 unfold u8s
 rw [List.getElem?_map, List.getD_eq_getElem?_getD, List.getElem?_eq_getElem h]
 rfl
theorem u8s_put (l : List UInt8) (k : Nat) (c : UInt8) : (u8s l).set k (.int .u8 (c.toNat : Int)) = u8s (l.set k c) := by
 unfold u8s
 rw [List.map_set]
 rfl
set_option maxHeartbeats 8000000 in
set_option maxRecDepth 100000 in
theorem digits_v (l : List UInt8) (hl : l.length ≤ 1000000000) (w : World) :
  Calls Tryd.prog 18 #[.string ⟨l.toArray⟩] w fun e w' => ∃ v b, e = .returned (.tuple #[v, .bool b]) ∧ Hid (b = (unHex l).isSome) ∧ (∃ A n c, v = .slice A n c ∧ Hid (b = true → ByT w' 0 (.slice A n c) ((unHex l).getD []))) ∧ Ext w w' := by
 have hsz := sizeOf_ l
 have hls := listOf l
 have hd0 : (ByteArray.mk l.toArray).data.toList = l := by simp
 obtain ⟨t, ht⟩ : ∃ t : ByteArray, t = ⟨l.toArray⟩ := ⟨_, rfl⟩
 rw [← ht] at hsz hls hd0 ⊢
 clear ht
 by_cases h45 : l = [45]
 ·have q : (t.toList == [45]) = true := by rw [hls, h45]; rfl
  have hr : unHex l = some [] := by unfold unHex; rw [if_pos h45]
  rw [hr]
  clear hls hd0 hr h45
  go_enter Tryd.func18, Tryd.ntmps18
  go_wp2
  go_ret2
  exact ⟨_, _, rfl, Lib.hid rfl, ⟨_, _, _, rfl, Lib.hid fun _ => ByT.nil _ _⟩, Below.refl _ _⟩
 ·have q45 : (t.toList == [45]) = false := by rw [hls]; simpa using h45
  have H45 := Lib.hid h45
  have HD := Lib.hid hd0
  obtain ⟨m, hm⟩ : ∃ m, m = l.length := ⟨_, rfl⟩
  have HM := Lib.hid hm
  rw [← hm] at hsz hl
  clear hls hd0 h45 hm
  go_enter Tryd.func18, Tryd.ntmps18
  go_wp2
  go_loopw [4, 12] (fun v i wr => ∃ j k r : Nat, j ≤ m ∧ Hid (j = 2 * k + r ∧ r < 2) ∧ i = .int .i64 j ∧ Hid (∀ x, x < j → (hval (l.getD x 0)).isSome = true) ∧ wr.ownsRow w.heap.size 5 1 v (k + r) (u8s (dgo l k r)) ∧ Ext w wr) (fun _ i _ => m - (intOf i).toNat)
  case atStart => exact ⟨0, 0, 0, Nat.zero_le _, Lib.hid ⟨rfl, by omega⟩, rfl, Lib.hid fun x hx => by omega, own_nil _ _ _ _, Below.refl _ _⟩
  case round =>
   obtain ⟨j, k, r, hj, HJ, rfl, HV, hown, hd⟩ := hrel
   obtain ⟨wo, rfl⟩ : ∃ wo : World, wo = wr := ⟨_, rfl⟩
   have hs := hd.size
   obtain ⟨A, c0, rfl, hsl⟩ := own_shape hown
   by_cases hlt : j < m
   ·have hjl : j < l.length := by rw [← HM.out]; exact hlt
    have HC : Hid (∃ c, c = l.getD j 0) := Lib.hid ⟨_, rfl⟩
    obtain ⟨c, hc⟩ := HC.out
    have HCC := Lib.hid hc
    obtain ⟨ci, hci⟩ : ∃ ci : Int, ci = (c.toNat : Int) := ⟨_, rfl⟩
    have FJ : ∀ pf, ((t[j]'pf).toNat : Int) = ci := fun pf => by
     rw [hci, hc]
     have e : t[j]'pf = t.data.toList[j]'(by rw [HD.out]; exact hjl) := rfl
     rw [e]
     simp only [HD.out]
     rw [List.getD_eq_getElem?_getD, List.getElem?_eq_getElem hjl]
     rfl
    have HCI := Lib.hid hci
    clear hc hci HC
    go_wp2_with fail
    go_loopw [6, 15] (fun dv i wr => ∃ kk : Nat, kk ≤ 16 ∧ i = .int .i64 kk ∧ dv = .int .i64 (hf c kk) ∧ Ext wo wr) (fun _ i _ => 16 - (intOf i).toNat)
    case atStart => exact ⟨0, by omega, rfl, rfl, Below.refl _ _⟩
    case round =>
     obtain ⟨kk, hk, rfl, rfl, hdi⟩ := hrel
     by_cases hk16 : kk < 16
     ·obtain ⟨ki, hki⟩ : ∃ ki : Int, ki = ((hset.getD kk 0).toNat : Int) := ⟨_, rfl⟩
      have FK : ∀ pf, (((ByteArray.mk #[48, 49, 50, 51, 52, 53, 54, 55, 56, 57, 97, 98, 99, 100, 101, 102])[kk]'pf).toNat : Int) = ki := fun pf => by
       rw [hki]
       exact congrArg (fun z : UInt8 => (z.toNat : Int)) (hset_at ⟨kk, hk16⟩)
      by_cases e : hset.getD kk 0 = c
      ·have q : (ki == ci) = true := by rw [hki, e, HCI.out]; simp
       have HS : Hid (hf c (kk + 1) = (kk : Int)) := Lib.hid (if_pos e)
       clear hki e
       go_wp2_with fail
       go_quiet (fail)
       go_wp2
       go_roundw
       case rel => exact ⟨kk + 1, by omega, by go_num, by rw [HS.out], below_drewN hdi _⟩
       case measure => simp [intOf]; omega
      ·have q : (ki == ci) = false := by
        rw [hki, HCI.out, beq_eq_false_iff_ne]
        intro h
        exact e (UInt8.toNat_inj.1 (by omega))
       have HS : Hid (hf c (kk + 1) = hf c kk) := Lib.hid (if_neg e)
       clear hki e
       go_wp2_with fail
       go_quiet (fail)
       go_wp2
       go_roundw
       case rel => exact ⟨kk + 1, by omega, by go_num, by rw [HS.out], below_drewN hdi _⟩
       case measure => simp [intOf]; omega
     ·obtain rfl : kk = 16 := by omega
      have hown := own_ext hown hdi
      have hd := ext_trans hd hdi
      have hs := hd.size
      clear hk16 hk
      cases hv : hval c with
      | none =>
       have hn : unHex l = none := unHex_bad H45.out hjl (by rw [← HCC.out]; exact hv)
       have HN := Lib.hid hn
       have hh := hf_none hv
       rw [hh]
       clear hn hh hv
       go_wp2_with fail
       go_ret2
       rw [HN.out]
       exact ⟨_, _, rfl, Lib.hid rfl, ⟨_, _, _, rfl, Lib.hid fun h => by cases h⟩, hd⟩
      | some x =>
       have hx := hval_lt hv
       rw [hf_some hv]
       have HVX := Lib.hid hv
       clear hv
       have qx : decide ((x : Int) < 0) = false := by simp
       have hr := HJ.out.2
       have hjj := HJ.out.1
       have HV2 : Hid (∀ y, y < j + 1 → (hval (l.getD y 0)).isSome = true) := Lib.hid fun y hy => by
        by_cases e : y < j
        ·exact HV.out y e
        ·have : y = j := by omega
         rw [this, ← HCC.out, HVX.out]
         rfl
       rcases (show r = 0 ∨ r = 1 by omega) with rfl | rfl
       ·have hq : (j : Int) % 2 = 0 := by omega
        have hz2 : IntKind.u8.wrap (16 * (x : Int)) = 16 * (x : Int) := by rw [IntKind.wrap_u8]; omega
        have hk9 : k ≤ 1000000000 := by omega
        have HT : Hid (u8s (dgo l k 0) ++ [.int .u8 (16 * (x : Int))] = u8s (dgo l k 1)) := Lib.hid (by
         have e : dgo l k 1 = dgo l k 0 ++ [UInt8.ofNat (16 * x)] := by
          have e0 : 2 * k = j := by omega
          unfold dgo
          rw [if_neg (by decide), if_pos rfl, e0, ← HCC.out, HVX.out]
          rfl
         rw [e, u8s_append]
         show _ = _ ++ [u8v _]
         unfold u8v
         rw [UInt8.toNat_ofNat']
         congr 3
         omega)
        clear hjj hr
        go_wp2_with (at_builtin; refine app_u8 rfl (.tmp 31) (.tmp 35) rfl w.heap.size _ (k + 0) _ rfl (own_alloc hown _) _ _ 1 1 [.int .u8 (16 * (x : Int))] rfl (Sl.new _ _ _ _ 1 1 rfl (by unfold maxLen; omega) (Nat.lt_succ_self _)) (by simp [Value.oneCell']) (by rw [blim_def]; omega) (by rw [size_alloc]; omega) ?_; intro v7 w7 hp7 hg7 hb7 hat7)
        rw [HT.out] at hp7
        refine ⟨⟨j + 1, k, 1, by omega, Lib.hid ⟨by have := HJ.out; omega, by omega⟩, by go_num, HV2, hp7, ?_⟩, by simp [intOf]; omega⟩
        exact hd.trans (((ext_alloc wr _).mono hs).trans hb7)
       ·have hq : (j : Int) % 2 = 1 := by omega
        have hq2 : (j : Int) / 2 = (k : Int) := by omega
        have hq3 : Int.tdiv (j : Int) 2 = (k : Int) := by rw [Int.tdiv_eq_ediv_of_nonneg (by omega)]; exact hq2
        obtain ⟨y, hy⟩ : ∃ y, hval (l.getD (2 * k) 0) = some y := Option.isSome_iff_exists.1 (HV.out (2 * k) (by omega))
        have hy16 := hval_lt hy
        have HO : Hid ((dgo l k 1).getD k 0 = UInt8.ofNat (16 * y) ∧ (dgo l k 1).set k (UInt8.ofNat (16 * y + x)) = dgo l (k + 1) 0) := Lib.hid (dgo_odd (by omega) hy (by rw [← hjj, ← HCC.out]; exact HVX.out))
        have hdl : (dgo l k 1).length = k + 1 := dgo_len (by omega) (by omega)
        obtain ⟨g, rfl, hg, hkd, hfz, hcell, hset⟩ := own_setW hown (i := k) (by omega)
        rw [u8s_nth (by omega), HO.out.1, UInt8.toNat_ofNat', show (16 * y % 2 ^ 8 : Nat) = 16 * y by omega] at hcell
        have hset := Lib.hid hset
        have hz1 : IntKind.u8.wrap (x : Int) = (x : Int) := by rw [IntKind.wrap_u8]; omega
        have hz2 : IntKind.u8.wrap (((16 * y : Nat) : Int) + (x : Int)) = 16 * (y : Int) + (x : Int) := by rw [IntKind.wrap_u8]; omega
        have j0 : (0 : Int) ≤ (k : Int) := by omega
        have j1 : (k : Int) < ((k + 1 : Nat) : Int) := by omega
        clear hjj hr hy hdl hkd
        go_wp2_with fail
        refine ⟨⟨j + 1, k + 1, 0, by omega, Lib.hid ⟨by have := HJ.out; omega, by omega⟩, by go_num, HV2, ?_, ?_⟩, by simp [intOf]; omega⟩
        ·have := hset.out (.int .u8 ((UInt8.ofNat (16 * y + x)).toNat : Int))
         rw [u8s_put, HO.out.2, UInt8.toNat_ofNat'] at this
         rw [show (((16 * y + x) % 2 ^ 8 : Nat) : Int) = 16 * (y : Int) + (x : Int) by omega] at this
         exact this
        ·exact Below.setCell hd (by simpa using hg) _
   ·obtain rfl : j = m := by omega
    have hjj := HJ.out
    by_cases h0 : j = 0
    ·have q1 : decide ((0 : Int) < (j : Int)) = false := by simp; omega
     have hn : unHex l = none := by
      have e : l = [] := List.eq_nil_of_length_eq_zero (by rw [← HM.out]; exact h0)
      rw [e]; rfl
     have HN := Lib.hid hn
     clear hn hjj
     go_wp2_with fail
     go_ret2
     rw [HN.out]
     exact ⟨_, _, rfl, Lib.hid rfl, ⟨_, _, _, rfl, Lib.hid fun h => by cases h⟩, hd⟩
    ·have q1 : decide ((0 : Int) < (j : Int)) = true := by simp; omega
     rcases (show r = 0 ∨ r = 1 by omega) with rfl | rfl
     ·have hq : (j : Int) % 2 = 0 := by omega
      have hn : unHex l = some (unp l) := unHex_all H45.out (fun e => h0 (by rw [HM.out, e]; rfl)) (by have := HM.out; omega) (fun y hy => HV.out y (by rw [HM.out]; exact hy))
      have e : dgo l k 0 = unp l := by unfold dgo; rw [if_pos rfl, List.take_of_length_le (by have := HM.out; omega)]
      rw [e] at hown
      have HN := Lib.hid hn
      clear hn hjj e
      go_wp2_with fail
      go_ret2
      rw [HN.out]
      exact ⟨_, _, rfl, Lib.hid rfl, ⟨_, _, _, rfl, Lib.hid fun _ => ByT.of_own hown⟩, hd⟩
     ·have hq : (j : Int) % 2 = 1 := by omega
      have hn : unHex l = none := unHex_odd H45.out (by have := HM.out; omega)
      have HN := Lib.hid hn
      clear hn hjj
      go_wp2_with fail
      go_ret2
      rw [HN.out]
      exact ⟨_, _, rfl, Lib.hid rfl, ⟨_, _, _, rfl, Lib.hid fun h => by cases h⟩, hd⟩
end Go.Proofs.YtdmnmfnmaccmoaaDoor
