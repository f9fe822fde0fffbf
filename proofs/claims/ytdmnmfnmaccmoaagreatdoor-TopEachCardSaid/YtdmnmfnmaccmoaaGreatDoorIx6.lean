/- Walks: index.Scan, scref1.Scan, index.Add. -/
import Derived.Test.YtdmnmfnmaccmoaaGreatDoorIx3
import Derived.Test.YtdmnmfnmaccmoaaGreatDoorIx2
import Derived.Test.YtdmnmfnmaccmoaaGreatDoorPr3
namespace Go.Proofs.YtdmnmfnmaccmoaaGreatDoor
open Go Go.RowKit
theorem sorted_strict {l : List Ent} (h : l.Pairwise fun a b => ¬ eLt b a) (h' : l.Pairwise fun a b => a.pair ≠ b.pair) : l.Pairwise eLt := by
 have := h.and h'
 exact this.imp (fun {a b} ⟨h1, h2⟩ => eLt_total (fun e => h2 e.symm) h1)
theorem perm_pairs {l m : List Ent} (h : l.Perm m) (hm : m.Pairwise fun a b => a.pair ≠ b.pair) : l.Pairwise fun a b => a.pair ≠ b.pair := h.symm.pairwise hm (fun {_ _} h => fun e => h e.symm)
theorem scan_eq {d : Dsk} {l : List Ent} (h : l.Perm (sTo d (d.blocks.length / 2))) (h' : l.Pairwise fun a b => ¬ eLt b a) : l = iScan d := by
 have hp := h.trans (iTo_perm d _).symm
 exact sorted_unique hp (sorted_strict h' (perm_pairs hp (iTo_pairs d _))) (iTo_sorted d _)
set_option maxRecDepth 100000 in
set_option maxHeartbeats 4000000 in
theorem ixScan_v {T : List TypeId} {base : Nat} {v : Value} {d : Dsk} {w : World} (h : DskV T w base v d) (hk : DskOk d) :
  Calls Tryz.prog 45 #[v] w fun e w' => ∃ v', e = .returned v' ∧ OwnRow eEnt w' w.heap.size 0 v' (iScan d) ∧ Ext w w' := by
 obtain ⟨A, n, c, E, m, e, rfl, HN, HM, hb, hl, hnc, hme⟩ := h.form
 clear hb hl HM
 have hn4 : n ≤ 4096 := by have := hk.blocks; have := HN.out; omega
 go_enter Tryz.func45, Tryz.ntmps45
 go_upto_region 3 with (fail)
 generalize hwn : World.alloc w _ = W
 have hx : Ext w W := by rw [← hwn]; exact ext_alloc _ _
 have b1 : Box W w.heap.size 27 #[.slice A n c, .slice E m e] := by rw [← hwn]; exact Box.new _ _ _ rfl
 clear hwn
 obtain ⟨g1, hg1⟩ : ∃ g, g = w.heap.size := ⟨_, rfl⟩
 rw [show Box W w.heap.size 27 #[.slice A n c, .slice E m e] ↔ Box W g1 27 #[.slice A n c, .slice E m e] by rw [hg1]] at b1
 rw [← hg1]
 have l1 : w.heap.size ≤ g1 := by omega
 have g11 : g1 + 1 = w.heap.size + 1 := by omega
 clear hg1
 obtain ⟨k, hk2⟩ : ∃ k : Nat, (n : Int) / 2 = (k : Int) := ⟨n / 2, by omega⟩
 have HK := Lib.hid (show k = d.blocks.length / 2 by rw [← HN.out]; omega)
 rw [hk2]
 have hk4 : k ≤ 2048 := by omega
 clear hk2
 go_loopw [3, 11] (fun v3 i wr => ∃ a : Nat, a ≤ k ∧ i = .int .i64 a ∧ OwnRow eEnt wr (g1 + 1) 0 v3 (sTo d a) ∧ Box wr g1 27 #[.slice A n c, .slice E m e] ∧ Ext w wr) (fun _ i _ => k - (intOf i).toNat)
 case atStart => exact ⟨0, by omega, rfl, OwnRow.nil _ _ _ _, b1, hx⟩
 case round =>
  clear hx b1
  obtain ⟨a, ha, rfl, own, b1, hx⟩ := hrel
  have hz := hx.size
  have lb1 := b1.lt
  by_cases hlt : a < k
  ·have e1 : (a : Int) < (k : Int) := by omega
   obtain ⟨b1_0, b1_1⟩ := b1.c2
   have b1_z := b1.free
   have b1_l := b1.lt
   go_wp2_with fail
   refine (look_v (p := (a : Int)) (h.ext hx) hk).mono ?_
   rintro e2 w2 ⟨rv, rfl, hr, he⟩
   try clear b1_0 b1_1 b1_z b1_l
   have hx := ext_trans hx he
   have own := own.ext he
   have b1 := b1.ext he
   clear he
   obtain ⟨how, hhow⟩ : ∃ x, (pLook d (a : Int)).1 = x := ⟨_, rfl⟩
   obtain ⟨r, hr'⟩ : ∃ x, (pLook d (a : Int)).2 = x := ⟨_, rfl⟩
   rw [hhow]
   rw [hr'] at hr
   have HR := Lib.hid hr'
   clear hhow hr'
   obtain ⟨u2, rfl, hu2⟩ := hr
   obtain ⟨A2, n2, c2, rfl, _, _⟩ := hu2.form
   go_upto_region 6 with (fail)
   generalize hwn : World.alloc w2 _ = w3
   have he : Ext w2 w3 := by rw [← hwn]; exact ext_alloc _ _
   have b6 : Box w3 w2.heap.size 54 #[.int .i64 r.kind, .int .i64 r.key, .int .i64 r.ver, .slice A2 n2 c2] := by rw [← hwn]; exact Box.new _ _ _ (by simp)
   clear hwn
   have hx := ext_trans hx he
   have own := own.ext he
   have b1 := b1.ext he
   have hu2 := hu2.ext he
   clear he
   have hz := hx.size
   have hst := show sTo d (a + 1) = if (pLook d a).2.kind ≠ 1 then sTo d a ++ [⟨(pLook d a).2, a⟩] else sTo d a from rfl
   rw [HR.out] at hst
   by_cases hk1 : r.kind = 1
   ·have q : (r.kind != 1) = false := by simpa using hk1
    rw [if_neg (by simpa using hk1)] at hst
    have HS := Lib.hid hst
    clear hst hk1
    obtain ⟨b6_0, b6_1, b6_2, b6_3⟩ := b6.c4
    have b6_z := b6.free
    have b6_l := b6.lt
    go_wp2_with fail
    refine ⟨⟨a + 1, by omega, rfl, by rw [HS.out]; exact own, b1, hx⟩, ?_⟩
    simp only [intOf]
    omega
   ·have q : (r.kind != 1) = true := by simpa using hk1
    rw [if_pos hk1] at hst
    have HS := Lib.hid hst
    have HL9 : Hid ((sTo d a).length + 1 ≤ lim) := Lib.hid (by have := sTo_length d a; rw [lim_def]; omega)
    clear hst hk1
    obtain ⟨b6_0, b6_1, b6_2, b6_3⟩ := b6.c4
    have b6_z := b6.free
    have b6_l := b6.lt
    go_wp2_with (at_builtin; (refine wpl_ent rfl (.tmp 23) (.tmp 27) rfl rfl (own.ext (ext_alloc _ _)) rfl (Sl.new _ _ _ _ 5 1 rfl (by unfold maxLen; omega) (Nat.lt_succ_self _)) (y := ⟨r, (a : Int)⟩) ⟨_, rfl, hu2.ext (ext_alloc _ _)⟩ HL9.out (by rw [size_alloc]; have := b1.lt; omega) (by omega) ?_; intro v7 w7 own7 hg7 hb7))
    refine ⟨⟨a + 1, by omega, rfl, by rw [HS.out]; exact own7, (b1.alloc _).below hb7 (by omega), (hx.alloc hx.size _).trans (hb7.mono (by omega))⟩, ?_⟩
    simp only [intOf]
    omega
  ·obtain rfl : a = k := by omega
   go_wp2_with fail
   refine (sortEnt_v own (Nat.zero_le _) (by have := sTo_length d a; omega)).mono ?_
   rintro e3 w3 ⟨rfl, l', hp, hs, own3, hb3⟩
   rw [HK.out] at hp
   have heq := scan_eq hp hs
   subst heq
   go_wp2_with fail
   go_ret
   exact ⟨_, rfl, own3.more (rb' := w.heap.size) (by omega) (Nat.le_refl _), hx.trans (hb3.mono (by omega))⟩
end Go.Proofs.YtdmnmfnmaccmoaaGreatDoor
