/- Walks: scref1.SameEntries. -/
import Derived.Test.YtmcgbdbhpnplmaaGreatIx1
namespace Go.Proofs.YtmcgbdbhpnplmaaGreat
open Go Go.RowKit
theorem take_eq_step {l m : List Ent} {a : Nat} (h : l.take a = m.take a) (h1 : a < l.length) (h2 : a < m.length) (h3 : l.getD a ⟨rZero, 0⟩ = m.getD a ⟨rZero, 0⟩) : l.take (a + 1) = m.take (a + 1) := by
 rw [← Cs_getD h1, ← Cs_getD h2, h, h3]
theorem getD_ne {l m : List Ent} {a : Nat} (h : l.getD a ⟨rZero, 0⟩ ≠ m.getD a ⟨rZero, 0⟩) : l ≠ m := fun e => h (by rw [e])
set_option maxRecDepth 100000 in
set_option maxHeartbeats 4000000 in
theorem sameEnts_v {T T' : List TypeId} {base base' : Nat} {u v : Value} {l m : List Ent} {w : World} (h : Row eEnt T w base u l) (h' : Row eEnt T' w base' v m) :
  Calls Tryz.prog 42 #[u, v] w fun e w' => e = .returned (.bool (esSame l m)) ∧ Ext w w' := by
 obtain ⟨A, n, c, rfl, hc, hcm, HN⟩ := h.form
 obtain ⟨A', n', c', rfl, hc', hcm', HN'⟩ := h'.form
 unfold maxLen at hcm hcm'
 go_enter Tryz.func42, Tryz.ntmps42
 by_cases hnn : n = n'
 ·subst hnn
  have q1 : ((n : Int) != (n : Int)) = false := by simp
  go_wp2_with fail
  clear q1
  go_loopw [13] (fun i wr => ∃ a : Nat, a ≤ n ∧ i = .int .i64 a ∧ Hid (l.take a = m.take a) ∧ Ext w wr) (fun i _ => n - (intOf i).toNat)
  case atStart => exact ⟨0, by omega, rfl, by simp [Hid], Below.refl _ _⟩
  case round =>
   obtain ⟨a, ha, rfl, HT, hd⟩ := hrel
   by_cases hlt : a < n
   ·have e0 : (0 : Int) ≤ (a : Int) := by omega
    have e1 : (a : Int) < (n : Int) := by omega
    have hal : a < l.length := HN.out ▸ hlt
    have hal' : a < m.length := HN'.out ▸ hlt
    have STEP := Lib.hid (fun h3 => take_eq_step HT.out hal hal' h3)
    have MISS := Lib.hid (fun h3 => (getD_ne (l := l) (m := m) (a := a)) h3)
    obtain ⟨g1, o1, u1, rfl, hg1, hu1, f1⟩ := h.ent_x hlt
    obtain ⟨g2, o2, u2, rfl, hg2, hu2, f2⟩ := h'.ent_x hlt
    generalize l.getD a ⟨rZero, 0⟩ = x at hu1 f1 STEP MISS
    generalize m.getD a ⟨rZero, 0⟩ = y at hu2 f2 STEP MISS
    clear hal hal' hg1 hg2
    go_upto_region 6 with (fail)
    have hd := hd.drew
    by_cases hp : x.pair = y.pair
    ·have q1 : (x.pair != y.pair) = false := by simpa using hp
     have hu1 := hu1.ext hd
     have hu2 := hu2.ext hd
     refine wp_region_ext 25 [0, 1, 2, 3, 4, 5, 6, 7, 8, 9, 10, 11, 12, 13, 14, 15, 16, 17, 18, 19, 20, 21, 23, 24] false rfl (by kernel_rfl) (by kernel_rfl) ?_
     generalize wr.drew = D at hd hu1 hu2 ⊢
     apply mixF 0 (by kernel_rfl) (by rfl) (by rfl)
     ·(intro w' hx; (obtain ⟨x0, x1, x2, x3, x4⟩ := f1 _ (ext_trans hd hx); obtain ⟨y0, y1, y2, y3, y4⟩ := f2 _ (ext_trans hd hx)); go_simp <;> with_reducible rfl)
     simp only [pA, pB, pC, pD]
     apply mixF 1 (by kernel_rfl) (by rfl) (by rfl)
     ·(intro w' hx; (obtain ⟨x0, x1, x2, x3, x4⟩ := f1 _ (ext_trans hd hx); obtain ⟨y0, y1, y2, y3, y4⟩ := f2 _ (ext_trans hd hx)); go_simp <;> with_reducible rfl)
     simp only [pA, pB, pC, pD]
     apply mixF 2 (by kernel_rfl) (by rfl) (by rfl)
     ·(intro w' hx; (obtain ⟨x0, x1, x2, x3, x4⟩ := f1 _ (ext_trans hd hx); obtain ⟨y0, y1, y2, y3, y4⟩ := f2 _ (ext_trans hd hx)); go_simp <;> with_reducible rfl)
     simp only [pA, pB, pC, pD]
     apply mixF 3 (by kernel_rfl) (by rfl) (by rfl)
     ·(intro w' hx; (obtain ⟨x0, x1, x2, x3, x4⟩ := f1 _ (ext_trans hd hx); obtain ⟨y0, y1, y2, y3, y4⟩ := f2 _ (ext_trans hd hx)); go_simp <;> with_reducible rfl)
     simp only [pA, pB, pC, pD]
     apply mixF 4 (by kernel_rfl) (by rfl) (by rfl)
     ·(intro w' hx; (obtain ⟨x0, x1, x2, x3, x4⟩ := f1 _ (ext_trans hd hx); obtain ⟨y0, y1, y2, y3, y4⟩ := f2 _ (ext_trans hd hx)); go_simp <;> with_reducible rfl)
     simp only [pA, pB, pC, pD]
     apply mixF 5 (by kernel_rfl) (by rfl) (by rfl)
     ·(intro w' hx; (obtain ⟨x0, x1, x2, x3, x4⟩ := f1 _ (ext_trans hd hx); obtain ⟨y0, y1, y2, y3, y4⟩ := f2 _ (ext_trans hd hx)); go_simp <;> with_reducible rfl)
     simp only [pA, pB, pC, pD]
     apply mixF 6 (by kernel_rfl) (by rfl) (by rfl)
     ·(intro w' hx; (obtain ⟨x0, x1, x2, x3, x4⟩ := f1 _ (ext_trans hd hx); obtain ⟨y0, y1, y2, y3, y4⟩ := f2 _ (ext_trans hd hx)); go_simp <;> with_reducible rfl)
     simp only [pA, pB, pC, pD]
     apply mixF 7 (by kernel_rfl) (by rfl) (by rfl)
     ·(intro w' hx; (obtain ⟨x0, x1, x2, x3, x4⟩ := f1 _ (ext_trans hd hx); obtain ⟨y0, y1, y2, y3, y4⟩ := f2 _ (ext_trans hd hx)); go_simp <;> with_reducible rfl)
     simp only [pA, pB, pC, pD]
     apply mixF 8 (by kernel_rfl) (by rfl) (by rfl)
     ·(intro w' hx; (obtain ⟨x0, x1, x2, x3, x4⟩ := f1 _ (ext_trans hd hx); obtain ⟨y0, y1, y2, y3, y4⟩ := f2 _ (ext_trans hd hx)); go_simp <;> with_reducible rfl)
     simp only [pA, pB, pC, pD]
     apply mixF 9 (by kernel_rfl) (by rfl) (by rfl)
     ·(intro w' hx; (obtain ⟨x0, x1, x2, x3, x4⟩ := f1 _ (ext_trans hd hx); obtain ⟨y0, y1, y2, y3, y4⟩ := f2 _ (ext_trans hd hx)); go_simp <;> with_reducible rfl)
     simp only [pA, pB, pC, pD]
     apply mixF 10 (by kernel_rfl) (by rfl) (by rfl)
     ·(intro w' hx; (obtain ⟨x0, x1, x2, x3, x4⟩ := f1 _ (ext_trans hd hx); obtain ⟨y0, y1, y2, y3, y4⟩ := f2 _ (ext_trans hd hx)); go_simp <;> with_reducible rfl)
     simp only [pA, pB, pC, pD]
     apply mixF 11 (by kernel_rfl) (by rfl) (by rfl)
     ·(intro w' hx; (obtain ⟨x0, x1, x2, x3, x4⟩ := f1 _ (ext_trans hd hx); obtain ⟨y0, y1, y2, y3, y4⟩ := f2 _ (ext_trans hd hx)); go_simp <;> with_reducible rfl)
     simp only [pA, pB, pC, pD]
     apply mixF 12 (by kernel_rfl) (by rfl) (by rfl)
     ·(intro w' hx; (obtain ⟨x0, x1, x2, x3, x4⟩ := f1 _ (ext_trans hd hx); obtain ⟨y0, y1, y2, y3, y4⟩ := f2 _ (ext_trans hd hx)); go_simp <;> with_reducible rfl)
     simp only [pA, pB, pC, pD]
     apply mixF 13 (by kernel_rfl) (by rfl) (by rfl)
     ·(intro w' hx; (obtain ⟨x0, x1, x2, x3, x4⟩ := f1 _ (ext_trans hd hx); obtain ⟨y0, y1, y2, y3, y4⟩ := f2 _ (ext_trans hd hx)); go_simp <;> with_reducible rfl)
     simp only [pA, pB, pC, pD]
     apply mixF 14 (by kernel_rfl) (by rfl) (by rfl)
     ·(intro w' hx; (obtain ⟨x0, x1, x2, x3, x4⟩ := f1 _ (ext_trans hd hx); obtain ⟨y0, y1, y2, y3, y4⟩ := f2 _ (ext_trans hd hx)); go_simp <;> with_reducible rfl)
     simp only [pA, pB, pC, pD]
     apply mixF 15 (by kernel_rfl) (by rfl) (by rfl)
     ·(intro w' hx; (obtain ⟨x0, x1, x2, x3, x4⟩ := f1 _ (ext_trans hd hx); obtain ⟨y0, y1, y2, y3, y4⟩ := f2 _ (ext_trans hd hx)); go_simp <;> with_reducible rfl)
     simp only [pA, pB, pC, pD]
     apply mixF 16 (by kernel_rfl) (by rfl) (by rfl)
     ·(intro w' hx; (obtain ⟨x0, x1, x2, x3, x4⟩ := f1 _ (ext_trans hd hx); obtain ⟨y0, y1, y2, y3, y4⟩ := f2 _ (ext_trans hd hx)); go_simp <;> with_reducible rfl)
     simp only [pA, pB, pC, pD]
     apply mixF 17 (by kernel_rfl) (by rfl) (by rfl)
     ·(intro w' hx; (obtain ⟨x0, x1, x2, x3, x4⟩ := f1 _ (ext_trans hd hx); obtain ⟨y0, y1, y2, y3, y4⟩ := f2 _ (ext_trans hd hx)); go_simp <;> with_reducible rfl)
     simp only [pA, pB, pC, pD]
     apply mixF 18 (by kernel_rfl) (by rfl) (by rfl)
     ·(intro w' hx; (obtain ⟨x0, x1, x2, x3, x4⟩ := f1 _ (ext_trans hd hx); obtain ⟨y0, y1, y2, y3, y4⟩ := f2 _ (ext_trans hd hx)); go_simp <;> with_reducible rfl)
     simp only [pA, pB, pC, pD]
     apply mixF 19 (by kernel_rfl) (by rfl) (by rfl)
     ·(intro w' hx; (obtain ⟨x0, x1, x2, x3, x4⟩ := f1 _ (ext_trans hd hx); obtain ⟨y0, y1, y2, y3, y4⟩ := f2 _ (ext_trans hd hx)); go_simp <;> with_reducible rfl)
     simp only [pA, pB, pC, pD]
     apply mixF 20 (by kernel_rfl) (by rfl) (by rfl)
     ·(intro w' hx; (obtain ⟨x0, x1, x2, x3, x4⟩ := f1 _ (ext_trans hd hx); obtain ⟨y0, y1, y2, y3, y4⟩ := f2 _ (ext_trans hd hx)); go_simp <;> with_reducible rfl)
     simp only [pA, pB, pC, pD]
     apply mixF 21 (by kernel_rfl) (by rfl) (by rfl)
     ·(intro w' hx; (obtain ⟨x0, x1, x2, x3, x4⟩ := f1 _ (ext_trans hd hx); obtain ⟨y0, y1, y2, y3, y4⟩ := f2 _ (ext_trans hd hx)); go_simp <;> with_reducible rfl)
     simp only [pA, pB, pC, pD]
     refine mixS 22 (by kernel_rfl) (by kernel_rfl) (by rfl) (by rfl) (fun K hK => ?_)
     go_wp2_with (go_at_call 30; refine (refSame_v (r := x.rcd) (s := y.rcd) ⟨_, rfl, hu1⟩ ⟨_, rfl, hu2⟩).mono ?_; rintro e w1 ⟨rfl, he⟩)
     refine hK.out _ _ (he) ?_
     clear hK K
     try simp only [pA, pB, pC, pD]
     have hd := ext_trans hd he
     clear f1 f2 he
     cases hs : rSame x.rcd y.rcd with
     | true =>
      apply mixF 23 (by kernel_rfl) (by rfl) (by rfl)
      ·(intro w' hx; go_simp <;> with_reducible rfl)
      simp only [pA, pB, pC, pD]
      apply mixF 24 (by kernel_rfl) (by rfl) (by rfl)
      ·(intro w' hx; go_simp <;> with_reducible rfl)
      simp only [pA, pB, pC, pD]
      refine mixEnd (by kernel_rfl) ?_
      go_wp2_with fail
      have hxy : x = y := (eSame_iff x y).1 (by unfold eSame; rw [hs, decide_eq_true hp]; rfl)
      refine ⟨⟨a + 1, by omega, rfl, STEP.out hxy, hd⟩, ?_⟩
      simp only [intOf]
      omega
     | false =>
      apply mixF 23 (by kernel_rfl) (by rfl) (by rfl)
      ·(intro w' hx; go_simp <;> with_reducible rfl)
      simp only [pA, pB, pC, pD]
      apply mixF 24 (by kernel_rfl) (by rfl) (by rfl)
      ·(intro w' hx; go_simp <;> with_reducible rfl)
      simp only [pA, pB, pC, pD]
      refine mixEnd (by kernel_rfl) ?_
      go_wp2_with fail
      go_ret
      have hne : x ≠ y := fun e => by rw [e, (rSame_iff _ _).2 rfl] at hs; cases hs
      exact ⟨by unfold esSame; rw [decide_eq_false (MISS.out hne)]; rfl, hd⟩
    ·have q1 : (x.pair != y.pair) = true := by simpa using hp
     refine wp_region_ext 25 [0, 1, 2, 3, 4, 5, 6, 7, 8, 9, 10, 11, 12, 13, 14, 15, 16, 17, 18, 19, 20, 21, 22, 23, 24] false rfl (by kernel_rfl) (by kernel_rfl) ?_
     generalize wr.drew = D at hd ⊢
     apply mixF 0 (by kernel_rfl) (by rfl) (by rfl)
     ·(intro w' hx; (obtain ⟨x0, x1, x2, x3, x4⟩ := f1 _ (ext_trans hd hx); obtain ⟨y0, y1, y2, y3, y4⟩ := f2 _ (ext_trans hd hx)); go_simp <;> with_reducible rfl)
     simp only [pA, pB, pC, pD]
     apply mixF 1 (by kernel_rfl) (by rfl) (by rfl)
     ·(intro w' hx; (obtain ⟨x0, x1, x2, x3, x4⟩ := f1 _ (ext_trans hd hx); obtain ⟨y0, y1, y2, y3, y4⟩ := f2 _ (ext_trans hd hx)); go_simp <;> with_reducible rfl)
     simp only [pA, pB, pC, pD]
     apply mixF 2 (by kernel_rfl) (by rfl) (by rfl)
     ·(intro w' hx; (obtain ⟨x0, x1, x2, x3, x4⟩ := f1 _ (ext_trans hd hx); obtain ⟨y0, y1, y2, y3, y4⟩ := f2 _ (ext_trans hd hx)); go_simp <;> with_reducible rfl)
     simp only [pA, pB, pC, pD]
     apply mixF 3 (by kernel_rfl) (by rfl) (by rfl)
     ·(intro w' hx; (obtain ⟨x0, x1, x2, x3, x4⟩ := f1 _ (ext_trans hd hx); obtain ⟨y0, y1, y2, y3, y4⟩ := f2 _ (ext_trans hd hx)); go_simp <;> with_reducible rfl)
     simp only [pA, pB, pC, pD]
     apply mixF 4 (by kernel_rfl) (by rfl) (by rfl)
     ·(intro w' hx; (obtain ⟨x0, x1, x2, x3, x4⟩ := f1 _ (ext_trans hd hx); obtain ⟨y0, y1, y2, y3, y4⟩ := f2 _ (ext_trans hd hx)); go_simp <;> with_reducible rfl)
     simp only [pA, pB, pC, pD]
     apply mixF 5 (by kernel_rfl) (by rfl) (by rfl)
     ·(intro w' hx; (obtain ⟨x0, x1, x2, x3, x4⟩ := f1 _ (ext_trans hd hx); obtain ⟨y0, y1, y2, y3, y4⟩ := f2 _ (ext_trans hd hx)); go_simp <;> with_reducible rfl)
     simp only [pA, pB, pC, pD]
     apply mixF 6 (by kernel_rfl) (by rfl) (by rfl)
     ·(intro w' hx; (obtain ⟨x0, x1, x2, x3, x4⟩ := f1 _ (ext_trans hd hx); obtain ⟨y0, y1, y2, y3, y4⟩ := f2 _ (ext_trans hd hx)); go_simp <;> with_reducible rfl)
     simp only [pA, pB, pC, pD]
     apply mixF 7 (by kernel_rfl) (by rfl) (by rfl)
     ·(intro w' hx; (obtain ⟨x0, x1, x2, x3, x4⟩ := f1 _ (ext_trans hd hx); obtain ⟨y0, y1, y2, y3, y4⟩ := f2 _ (ext_trans hd hx)); go_simp <;> with_reducible rfl)
     simp only [pA, pB, pC, pD]
     apply mixF 8 (by kernel_rfl) (by rfl) (by rfl)
     ·(intro w' hx; (obtain ⟨x0, x1, x2, x3, x4⟩ := f1 _ (ext_trans hd hx); obtain ⟨y0, y1, y2, y3, y4⟩ := f2 _ (ext_trans hd hx)); go_simp <;> with_reducible rfl)
     simp only [pA, pB, pC, pD]
     apply mixF 9 (by kernel_rfl) (by rfl) (by rfl)
     ·(intro w' hx; (obtain ⟨x0, x1, x2, x3, x4⟩ := f1 _ (ext_trans hd hx); obtain ⟨y0, y1, y2, y3, y4⟩ := f2 _ (ext_trans hd hx)); go_simp <;> with_reducible rfl)
     simp only [pA, pB, pC, pD]
     apply mixF 10 (by kernel_rfl) (by rfl) (by rfl)
     ·(intro w' hx; (obtain ⟨x0, x1, x2, x3, x4⟩ := f1 _ (ext_trans hd hx); obtain ⟨y0, y1, y2, y3, y4⟩ := f2 _ (ext_trans hd hx)); go_simp <;> with_reducible rfl)
     simp only [pA, pB, pC, pD]
     apply mixF 11 (by kernel_rfl) (by rfl) (by rfl)
     ·(intro w' hx; (obtain ⟨x0, x1, x2, x3, x4⟩ := f1 _ (ext_trans hd hx); obtain ⟨y0, y1, y2, y3, y4⟩ := f2 _ (ext_trans hd hx)); go_simp <;> with_reducible rfl)
     simp only [pA, pB, pC, pD]
     clear f1 f2
     refine mixFskip 12 (by kernel_rfl) (by rfl) (by rfl) ?_
     simp only [pA, pB, pC, pD]
     refine mixFskip 13 (by kernel_rfl) (by rfl) (by rfl) ?_
     simp only [pA, pB, pC, pD]
     refine mixFskip 14 (by kernel_rfl) (by rfl) (by rfl) ?_
     simp only [pA, pB, pC, pD]
     refine mixFskip 15 (by kernel_rfl) (by rfl) (by rfl) ?_
     simp only [pA, pB, pC, pD]
     refine mixFskip 16 (by kernel_rfl) (by rfl) (by rfl) ?_
     simp only [pA, pB, pC, pD]
     refine mixFskip 17 (by kernel_rfl) (by rfl) (by rfl) ?_
     simp only [pA, pB, pC, pD]
     refine mixFskip 18 (by kernel_rfl) (by rfl) (by rfl) ?_
     simp only [pA, pB, pC, pD]
     refine mixFskip 19 (by kernel_rfl) (by rfl) (by rfl) ?_
     simp only [pA, pB, pC, pD]
     refine mixFskip 20 (by kernel_rfl) (by rfl) (by rfl) ?_
     simp only [pA, pB, pC, pD]
     refine mixFskip 21 (by kernel_rfl) (by rfl) (by rfl) ?_
     simp only [pA, pB, pC, pD]
     refine mixFskip 22 (by kernel_rfl) (by rfl) (by rfl) ?_
     simp only [pA, pB, pC, pD]
     refine mixFskip 23 (by kernel_rfl) (by rfl) (by rfl) ?_
     simp only [pA, pB, pC, pD]
     apply mixF 24 (by kernel_rfl) (by rfl) (by rfl)
     ·(intro w' hx; go_simp <;> with_reducible rfl)
     simp only [pA, pB, pC, pD]
     refine mixEnd (by kernel_rfl) ?_
     go_wp2_with fail
     go_ret
     have hne : x ≠ y := fun e => hp (by rw [e])
     exact ⟨by unfold esSame; rw [decide_eq_false (MISS.out hne)]; rfl, hd⟩
   ·obtain rfl : a = n := by omega
    have hlm : l = m := by
     have := HT.out
     rwa [List.take_of_length_le (by rw [HN.out]; exact Nat.le_refl _), List.take_of_length_le (by rw [HN'.out]; exact Nat.le_refl _)] at this
    go_wp2_with fail
    go_ret
    exact ⟨by unfold esSame; rw [decide_eq_true hlm]; rfl, hd⟩
 ·have q1 : ((n : Int) != (n' : Int)) = true := by simp; omega
  have hne : l ≠ m := fun e => hnn (by rw [HN.out, HN'.out, e])
  have HNE := Lib.hid hne
  clear hne hnn
  go_wp2_with fail
  go_ret
  exact ⟨by unfold esSame; rw [decide_eq_false HNE.out]; rfl, Below.refl _ _⟩
end Go.Proofs.YtmcgbdbhpnplmaaGreat
