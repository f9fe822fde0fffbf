/- Walks: scref1.RightIndex. -/
import Derived.Test.YtpidjkadpnjahaaIx4
import Derived.Test.YtpidjkadpnjahaaIx2
import Derived.Test.YtpidjkadpnjahaaPr2
namespace Go.Proofs.Ytpidjkadpnjahaa
open Go Go.RowKit
theorem right_nil : iRight [] := ⟨by simp, List.Pairwise.nil, List.Pairwise.nil⟩
theorem right_step {l : List Ent} {a : Nat} (ha : a < l.length) (h : iRight (l.take a)) (h1 : eOne (l.getD a ⟨rZero, 0⟩) = true) (h2 : ∀ b, a = b + 1 → eLt (l.getD b ⟨rZero, 0⟩) (l.getD a ⟨rZero, 0⟩)) (h3 : ∀ y ∈ l.take a, y.pair ≠ (l.getD a ⟨rZero, 0⟩).pair) : iRight (l.take (a + 1)) := by
 rw [← Cs_getD ha]
 obtain ⟨p1, p2, p3⟩ := h
 refine ⟨fun e he => ?_, ?_, ?_⟩
 ·rcases List.mem_append.1 he with he | he
  ·exact p1 e he
  ·rw [List.mem_singleton.1 he]; exact h1
 ·rw [List.pairwise_append]
  refine ⟨p2, List.pairwise_singleton _ _, fun x hx y hy => ?_⟩
  rw [List.mem_singleton.1 hy]
  rcases a with _ | b
  ·simp at hx
  ·have hb := h2 b rfl
   rw [← Cs_getD (by omega : b < l.length)] at hx p2
   rcases List.mem_append.1 hx with hx | hx
   ·exact eLt_trans ((List.pairwise_append.1 p2).2.2 x hx _ (by simp)) hb
   ·rw [List.mem_singleton.1 hx]; exact hb
 ·rw [List.pairwise_append]
  refine ⟨p3, List.pairwise_singleton _ _, fun x hx y hy => ?_⟩
  rw [List.mem_singleton.1 hy]
  exact h3 x hx
theorem right_one {l : List Ent} (h : iRight l) {a : Nat} (ha : a < l.length) : eOne (l.getD a ⟨rZero, 0⟩) = true := h.1 _ (ent_mem ha)
theorem right_lt {l : List Ent} (h : iRight l) {a : Nat} (ha : a + 1 < l.length) : eLt (l.getD a ⟨rZero, 0⟩) (l.getD (a + 1) ⟨rZero, 0⟩) := by
 have := List.pairwise_iff_getElem.1 h.2.1 a (a + 1) (by omega) ha (by omega)
 simpa [List.getD_eq_getElem?_getD, List.getElem?_eq_getElem ha, List.getElem?_eq_getElem (by omega : a < l.length)] using this
theorem right_ne {l : List Ent} (h : iRight l) {i a : Nat} (hi : i < a) (ha : a < l.length) : (l.getD i ⟨rZero, 0⟩).pair ≠ (l.getD a ⟨rZero, 0⟩).pair := by
 have := List.pairwise_iff_getElem.1 h.2.2 i a (by omega) ha hi
 simpa [List.getD_eq_getElem?_getD, List.getElem?_eq_getElem ha, List.getElem?_eq_getElem (by omega : i < l.length)] using this
theorem take_mem {l : List Ent} {a : Nat} {y : Ent} (h : y ∈ l.take a) : ∃ i, i < a ∧ i < l.length ∧ y = l.getD i ⟨rZero, 0⟩ := by
 obtain ⟨i, hi, rfl⟩ := List.getElem_of_mem h
 rw [List.length_take] at hi
 refine ⟨i, by omega, by omega, ?_⟩
 rw [List.getD_eq_getElem?_getD, List.getElem?_eq_getElem (by omega)]
 simp
theorem eOne_iff (e : Ent) : eOne e = true ↔ rWrong e.rcd = 0 ∧ e.rcd.kind ≠ 1 ∧ 0 ≤ e.pair ∧ e.pair ≤ 1000 := by
 unfold eOne rOne
 simp [and_assoc]
set_option maxRecDepth 100000 in
set_option maxHeartbeats 4000000 in
theorem rightIndex_v {T : List TypeId} {base : Nat} {u : Value} {l : List Ent} {w : World} (h : Row eEnt T w base u l) :
  Calls Try.prog 71 #[u] w fun e w' => ∃ b, e = .returned (.bool b) ∧ Hid (b = true ↔ iRight l) ∧ Ext w w' := by
 obtain ⟨A, n, c, rfl, hc, hcm, HN⟩ := h.form
 unfold maxLen at hcm
 go_enter Try.func71, Try.ntmps71
 go_wp2_with fail
 go_loopw [9] (fun i wr => ∃ a : Nat, a ≤ n ∧ i = .int .i64 a ∧ Hid (iRight (l.take a)) ∧ Ext w wr) (fun i _ => n - (intOf i).toNat)
 case atStart => exact ⟨0, by omega, rfl, right_nil, Below.refl _ _⟩
 case round =>
  obtain ⟨a, ha, rfl, HT, hd⟩ := hrel
  by_cases hlt : a < n
  ·have e0 : (0 : Int) ≤ (a : Int) := by omega
   have e1 : (a : Int) < (n : Int) := by omega
   have hal : a < l.length := HN.out ▸ hlt
   have STEP := Lib.hid (right_step hal HT.out)
   have ONE := Lib.hid (fun h => right_one (l := l) h hal)
   have LT := Lib.hid (fun h b (hb : a = b + 1) => right_lt (l := l) h (a := b) (by omega))
   have NE := Lib.hid (fun h i (hi : i < a) => right_ne (l := l) h hi hal)
   obtain ⟨g1, o1, u1, hA, hg1, hu1, f1⟩ := h.ent_x hlt
   obtain ⟨x, hx'⟩ : ∃ x, l.getD a ⟨rZero, 0⟩ = x := ⟨_, rfl⟩
   rw [hx'] at hu1 f1 STEP ONE NE
   have HX := Lib.hid hx'
   clear hx' hal
   obtain ⟨A1, n1, c1, rfl, _, _⟩ := hu1.form
   obtain ⟨x0, x1, x2, x3, x4⟩ := f1 _ hd
   subst hA
   go_upto_region 4 with (fail)
   generalize hwn : World.alloc wr _ = w1
   have he : Ext wr w1 := by rw [← hwn]; exact ext_alloc _ _
   have b4 : Box w1 wr.heap.size 74 #[.int .i64 x.rcd.kind, .int .i64 x.rcd.key, .int .i64 x.rcd.ver, .slice A1 n1 c1, .int .i64 x.pair] := by rw [← hwn]; exact Box.new _ _ _ (by simp)
   clear hwn x0 x1 x2 x3 x4 f1
   obtain ⟨g4, hg4⟩ : ∃ g, g = wr.heap.size := ⟨_, rfl⟩
   rw [← hg4] at b4 ⊢
   clear hg4
   have hd := (ext_trans hd he).drew
   have b4 := b4.drew
   have hu1 := hu1.ext hd
   clear he
   by_cases hw : rWrong x.rcd = 0
   case neg =>
    have q1 : (rWrong x.rcd != 0) = true := by simpa using hw
    have BAD : Hid (iRight l → False) := Lib.hid (fun h => hw ((eOne_iff x).1 (ONE.out h)).1)
    refine wp_region_ext 34 [0, 1, 3, 4, 5, 6, 7, 8, 9, 10, 11, 12, 13, 14, 15, 16, 17, 18, 19, 20, 21, 22, 23, 24, 25, 26, 27, 28, 29, 30, 31, 32, 33] false rfl (by kernel_rfl) (by kernel_rfl) ?_
    generalize w1.drew = D at hd b4 hu1 ⊢
    apply mixF 0 (by kernel_rfl) (by rfl) (by rfl)
    ·(intro w' hx; obtain ⟨y0, y1, y2, y3, y4⟩ := (b4.ext hx).c5; go_simp <;> with_reducible rfl)
    simp only [pA, pB, pC, pD]
    apply mixF 1 (by kernel_rfl) (by rfl) (by rfl)
    ·(intro w' hx; obtain ⟨y0, y1, y2, y3, y4⟩ := (b4.ext hx).c5; go_simp <;> with_reducible rfl)
    simp only [pA, pB, pC, pD]
    refine mixS 2 (by kernel_rfl) (by kernel_rfl) (by rfl) (by rfl) (fun K hK => ?_)
    go_wp2_with (go_at_call 28; refine (refWrong_v (r := x.rcd) ⟨_, rfl, hu1⟩).mono ?_; rintro e w2 ⟨rfl, he⟩)
    refine hK.out _ _ (he) ?_
    clear hK K
    try simp only [pA, pB, pC, pD]
    have hd := ext_trans hd he
    have b4 := b4.ext he
    clear he
    apply mixF 3 (by kernel_rfl) (by rfl) (by rfl)
    ·(intro w' hx; go_simp <;> with_reducible rfl)
    simp only [pA, pB, pC, pD]
    apply mixF 4 (by kernel_rfl) (by rfl) (by rfl)
    ·(intro w' hx; go_simp <;> with_reducible rfl)
    simp only [pA, pB, pC, pD]
    refine mixFskip 5 (by kernel_rfl) (by rfl) (by rfl) ?_
    simp only [pA, pB, pC, pD]
    refine mixFskip 6 (by kernel_rfl) (by rfl) (by rfl) ?_
    simp only [pA, pB, pC, pD]
    refine mixFskip 7 (by kernel_rfl) (by rfl) (by rfl) ?_
    simp only [pA, pB, pC, pD]
    refine mixFskip 8 (by kernel_rfl) (by rfl) (by rfl) ?_
    simp only [pA, pB, pC, pD]
    apply mixF 9 (by kernel_rfl) (by rfl) (by rfl)
    ·(intro w' hx; go_simp <;> with_reducible rfl)
    simp only [pA, pB, pC, pD]
    apply mixF 10 (by kernel_rfl) (by rfl) (by rfl)
    ·(intro w' hx; go_simp <;> with_reducible rfl)
    simp only [pA, pB, pC, pD]
    refine mixFskip 11 (by kernel_rfl) (by rfl) (by rfl) ?_
    simp only [pA, pB, pC, pD]
    refine mixFskip 12 (by kernel_rfl) (by rfl) (by rfl) ?_
    simp only [pA, pB, pC, pD]
    refine mixFskip 13 (by kernel_rfl) (by rfl) (by rfl) ?_
    simp only [pA, pB, pC, pD]
    apply mixF 14 (by kernel_rfl) (by rfl) (by rfl)
    ·(intro w' hx; go_simp <;> with_reducible rfl)
    simp only [pA, pB, pC, pD]
    apply mixF 15 (by kernel_rfl) (by rfl) (by rfl)
    ·(intro w' hx; go_simp <;> with_reducible rfl)
    simp only [pA, pB, pC, pD]
    refine mixFskip 16 (by kernel_rfl) (by rfl) (by rfl) ?_
    simp only [pA, pB, pC, pD]
    refine mixFskip 17 (by kernel_rfl) (by rfl) (by rfl) ?_
    simp only [pA, pB, pC, pD]
    refine mixFskip 18 (by kernel_rfl) (by rfl) (by rfl) ?_
    simp only [pA, pB, pC, pD]
    apply mixF 19 (by kernel_rfl) (by rfl) (by rfl)
    ·(intro w' hx; go_simp <;> with_reducible rfl)
    simp only [pA, pB, pC, pD]
    apply mixF 20 (by kernel_rfl) (by rfl) (by rfl)
    ·(intro w' hx; go_simp <;> with_reducible rfl)
    simp only [pA, pB, pC, pD]
    refine mixFskip 21 (by kernel_rfl) (by rfl) (by rfl) ?_
    simp only [pA, pB, pC, pD]
    refine mixFskip 22 (by kernel_rfl) (by rfl) (by rfl) ?_
    simp only [pA, pB, pC, pD]
    refine mixFskip 23 (by kernel_rfl) (by rfl) (by rfl) ?_
    simp only [pA, pB, pC, pD]
    refine mixFskip 24 (by kernel_rfl) (by rfl) (by rfl) ?_
    simp only [pA, pB, pC, pD]
    refine mixFskip 25 (by kernel_rfl) (by rfl) (by rfl) ?_
    simp only [pA, pB, pC, pD]
    refine mixFskip 26 (by kernel_rfl) (by rfl) (by rfl) ?_
    simp only [pA, pB, pC, pD]
    refine mixFskip 27 (by kernel_rfl) (by rfl) (by rfl) ?_
    simp only [pA, pB, pC, pD]
    refine mixFskip 28 (by kernel_rfl) (by rfl) (by rfl) ?_
    simp only [pA, pB, pC, pD]
    refine mixFskip 29 (by kernel_rfl) (by rfl) (by rfl) ?_
    simp only [pA, pB, pC, pD]
    refine mixFskip 30 (by kernel_rfl) (by rfl) (by rfl) ?_
    simp only [pA, pB, pC, pD]
    refine mixFskip 31 (by kernel_rfl) (by rfl) (by rfl) ?_
    simp only [pA, pB, pC, pD]
    refine mixFskip 32 (by kernel_rfl) (by rfl) (by rfl) ?_
    simp only [pA, pB, pC, pD]
    apply mixF 33 (by kernel_rfl) (by rfl) (by rfl)
    ·(intro w' hx; go_simp <;> with_reducible rfl)
    simp only [pA, pB, pC, pD]
    refine mixEnd (by kernel_rfl) ?_
    go_wp2_with fail
    go_ret
    exact ⟨false, rfl, Lib.hid ⟨fun h => (by cases h), fun h => ((BAD.out h).elim)⟩, hd⟩
   have q1 : (rWrong x.rcd != 0) = false := by simpa using hw
   by_cases hk : x.rcd.kind = 1
   ·have q2 : (x.rcd.kind == 1) = true := by simpa using hk
    have BAD : Hid (iRight l → False) := Lib.hid (fun h => ((eOne_iff x).1 (ONE.out h)).2.1 hk)
    clear hk
    refine wp_region_ext 34 [0, 1, 3, 4, 5, 6, 7, 8, 9, 10, 11, 12, 13, 14, 15, 16, 17, 18, 19, 20, 21, 22, 23, 24, 25, 26, 27, 28, 29, 30, 31, 32, 33] false rfl (by kernel_rfl) (by kernel_rfl) ?_
    generalize w1.drew = D at hd b4 hu1 ⊢
    apply mixF 0 (by kernel_rfl) (by rfl) (by rfl)
    ·(intro w' hx; obtain ⟨y0, y1, y2, y3, y4⟩ := (b4.ext hx).c5; go_simp <;> with_reducible rfl)
    simp only [pA, pB, pC, pD]
    apply mixF 1 (by kernel_rfl) (by rfl) (by rfl)
    ·(intro w' hx; obtain ⟨y0, y1, y2, y3, y4⟩ := (b4.ext hx).c5; go_simp <;> with_reducible rfl)
    simp only [pA, pB, pC, pD]
    refine mixS 2 (by kernel_rfl) (by kernel_rfl) (by rfl) (by rfl) (fun K hK => ?_)
    go_wp2_with (go_at_call 28; refine (refWrong_v (r := x.rcd) ⟨_, rfl, hu1⟩).mono ?_; rintro e w2 ⟨rfl, he⟩)
    refine hK.out _ _ (he) ?_
    clear hK K
    try simp only [pA, pB, pC, pD]
    have hd := ext_trans hd he
    have b4 := b4.ext he
    clear he
    apply mixF 3 (by kernel_rfl) (by rfl) (by rfl)
    ·(intro w' hx; obtain ⟨y0, y1, y2, y3, y4⟩ := (b4.ext hx).c5; go_simp <;> with_reducible rfl)
    simp only [pA, pB, pC, pD]
    apply mixF 4 (by kernel_rfl) (by rfl) (by rfl)
    ·(intro w' hx; obtain ⟨y0, y1, y2, y3, y4⟩ := (b4.ext hx).c5; go_simp <;> with_reducible rfl)
    simp only [pA, pB, pC, pD]
    apply mixF 5 (by kernel_rfl) (by rfl) (by rfl)
    ·(intro w' hx; obtain ⟨y0, y1, y2, y3, y4⟩ := (b4.ext hx).c5; go_simp <;> with_reducible rfl)
    simp only [pA, pB, pC, pD]
    apply mixF 6 (by kernel_rfl) (by rfl) (by rfl)
    ·(intro w' hx; obtain ⟨y0, y1, y2, y3, y4⟩ := (b4.ext hx).c5; go_simp <;> with_reducible rfl)
    simp only [pA, pB, pC, pD]
    apply mixF 7 (by kernel_rfl) (by rfl) (by rfl)
    ·(intro w' hx; obtain ⟨y0, y1, y2, y3, y4⟩ := (b4.ext hx).c5; go_simp <;> with_reducible rfl)
    simp only [pA, pB, pC, pD]
    apply mixF 8 (by kernel_rfl) (by rfl) (by rfl)
    ·(intro w' hx; obtain ⟨y0, y1, y2, y3, y4⟩ := (b4.ext hx).c5; go_simp <;> with_reducible rfl)
    simp only [pA, pB, pC, pD]
    apply mixF 9 (by kernel_rfl) (by rfl) (by rfl)
    ·(intro w' hx; obtain ⟨y0, y1, y2, y3, y4⟩ := (b4.ext hx).c5; go_simp <;> with_reducible rfl)
    simp only [pA, pB, pC, pD]
    apply mixF 10 (by kernel_rfl) (by rfl) (by rfl)
    ·(intro w' hx; obtain ⟨y0, y1, y2, y3, y4⟩ := (b4.ext hx).c5; go_simp <;> with_reducible rfl)
    simp only [pA, pB, pC, pD]
    refine mixFskip 11 (by kernel_rfl) (by rfl) (by rfl) ?_
    simp only [pA, pB, pC, pD]
    refine mixFskip 12 (by kernel_rfl) (by rfl) (by rfl) ?_
    simp only [pA, pB, pC, pD]
    refine mixFskip 13 (by kernel_rfl) (by rfl) (by rfl) ?_
    simp only [pA, pB, pC, pD]
    apply mixF 14 (by kernel_rfl) (by rfl) (by rfl)
    ·(intro w' hx; go_simp <;> with_reducible rfl)
    simp only [pA, pB, pC, pD]
    apply mixF 15 (by kernel_rfl) (by rfl) (by rfl)
    ·(intro w' hx; go_simp <;> with_reducible rfl)
    simp only [pA, pB, pC, pD]
    refine mixFskip 16 (by kernel_rfl) (by rfl) (by rfl) ?_
    simp only [pA, pB, pC, pD]
    refine mixFskip 17 (by kernel_rfl) (by rfl) (by rfl) ?_
    simp only [pA, pB, pC, pD]
    refine mixFskip 18 (by kernel_rfl) (by rfl) (by rfl) ?_
    simp only [pA, pB, pC, pD]
    apply mixF 19 (by kernel_rfl) (by rfl) (by rfl)
    ·(intro w' hx; go_simp <;> with_reducible rfl)
    simp only [pA, pB, pC, pD]
    apply mixF 20 (by kernel_rfl) (by rfl) (by rfl)
    ·(intro w' hx; go_simp <;> with_reducible rfl)
    simp only [pA, pB, pC, pD]
    refine mixFskip 21 (by kernel_rfl) (by rfl) (by rfl) ?_
    simp only [pA, pB, pC, pD]
    refine mixFskip 22 (by kernel_rfl) (by rfl) (by rfl) ?_
    simp only [pA, pB, pC, pD]
    refine mixFskip 23 (by kernel_rfl) (by rfl) (by rfl) ?_
    simp only [pA, pB, pC, pD]
    refine mixFskip 24 (by kernel_rfl) (by rfl) (by rfl) ?_
    simp only [pA, pB, pC, pD]
    refine mixFskip 25 (by kernel_rfl) (by rfl) (by rfl) ?_
    simp only [pA, pB, pC, pD]
    refine mixFskip 26 (by kernel_rfl) (by rfl) (by rfl) ?_
    simp only [pA, pB, pC, pD]
    refine mixFskip 27 (by kernel_rfl) (by rfl) (by rfl) ?_
    simp only [pA, pB, pC, pD]
    refine mixFskip 28 (by kernel_rfl) (by rfl) (by rfl) ?_
    simp only [pA, pB, pC, pD]
    refine mixFskip 29 (by kernel_rfl) (by rfl) (by rfl) ?_
    simp only [pA, pB, pC, pD]
    refine mixFskip 30 (by kernel_rfl) (by rfl) (by rfl) ?_
    simp only [pA, pB, pC, pD]
    refine mixFskip 31 (by kernel_rfl) (by rfl) (by rfl) ?_
    simp only [pA, pB, pC, pD]
    refine mixFskip 32 (by kernel_rfl) (by rfl) (by rfl) ?_
    simp only [pA, pB, pC, pD]
    apply mixF 33 (by kernel_rfl) (by rfl) (by rfl)
    ·(intro w' hx; go_simp <;> with_reducible rfl)
    simp only [pA, pB, pC, pD]
    refine mixEnd (by kernel_rfl) ?_
    go_wp2_with fail
    go_ret
    exact ⟨false, rfl, Lib.hid ⟨fun h => (by cases h), fun h => ((BAD.out h).elim)⟩, hd⟩
   have q2 : (x.rcd.kind == 1) = false := by simpa using hk
   by_cases hp : x.pair < 0
   ·have q3 : decide (x.pair < 0) = true := by simpa using hp
    have BAD : Hid (iRight l → False) := Lib.hid (fun h => by have := ((eOne_iff x).1 (ONE.out h)).2.2.1; omega)
    clear hk
    refine wp_region_ext 34 [0, 1, 3, 4, 5, 6, 7, 8, 9, 10, 11, 12, 13, 14, 15, 16, 17, 18, 19, 20, 21, 22, 23, 24, 25, 26, 27, 28, 29, 30, 31, 32, 33] false rfl (by kernel_rfl) (by kernel_rfl) ?_
    generalize w1.drew = D at hd b4 hu1 ⊢
    apply mixF 0 (by kernel_rfl) (by rfl) (by rfl)
    ·(intro w' hx; obtain ⟨y0, y1, y2, y3, y4⟩ := (b4.ext hx).c5; go_simp <;> with_reducible rfl)
    simp only [pA, pB, pC, pD]
    apply mixF 1 (by kernel_rfl) (by rfl) (by rfl)
    ·(intro w' hx; obtain ⟨y0, y1, y2, y3, y4⟩ := (b4.ext hx).c5; go_simp <;> with_reducible rfl)
    simp only [pA, pB, pC, pD]
    refine mixS 2 (by kernel_rfl) (by kernel_rfl) (by rfl) (by rfl) (fun K hK => ?_)
    go_wp2_with (go_at_call 28; refine (refWrong_v (r := x.rcd) ⟨_, rfl, hu1⟩).mono ?_; rintro e w2 ⟨rfl, he⟩)
    refine hK.out _ _ (he) ?_
    clear hK K
    try simp only [pA, pB, pC, pD]
    have hd := ext_trans hd he
    have b4 := b4.ext he
    clear he
    apply mixF 3 (by kernel_rfl) (by rfl) (by rfl)
    ·(intro w' hx; obtain ⟨y0, y1, y2, y3, y4⟩ := (b4.ext hx).c5; go_simp <;> with_reducible rfl)
    simp only [pA, pB, pC, pD]
    apply mixF 4 (by kernel_rfl) (by rfl) (by rfl)
    ·(intro w' hx; obtain ⟨y0, y1, y2, y3, y4⟩ := (b4.ext hx).c5; go_simp <;> with_reducible rfl)
    simp only [pA, pB, pC, pD]
    apply mixF 5 (by kernel_rfl) (by rfl) (by rfl)
    ·(intro w' hx; obtain ⟨y0, y1, y2, y3, y4⟩ := (b4.ext hx).c5; go_simp <;> with_reducible rfl)
    simp only [pA, pB, pC, pD]
    apply mixF 6 (by kernel_rfl) (by rfl) (by rfl)
    ·(intro w' hx; obtain ⟨y0, y1, y2, y3, y4⟩ := (b4.ext hx).c5; go_simp <;> with_reducible rfl)
    simp only [pA, pB, pC, pD]
    apply mixF 7 (by kernel_rfl) (by rfl) (by rfl)
    ·(intro w' hx; obtain ⟨y0, y1, y2, y3, y4⟩ := (b4.ext hx).c5; go_simp <;> with_reducible rfl)
    simp only [pA, pB, pC, pD]
    apply mixF 8 (by kernel_rfl) (by rfl) (by rfl)
    ·(intro w' hx; obtain ⟨y0, y1, y2, y3, y4⟩ := (b4.ext hx).c5; go_simp <;> with_reducible rfl)
    simp only [pA, pB, pC, pD]
    apply mixF 9 (by kernel_rfl) (by rfl) (by rfl)
    ·(intro w' hx; obtain ⟨y0, y1, y2, y3, y4⟩ := (b4.ext hx).c5; go_simp <;> with_reducible rfl)
    simp only [pA, pB, pC, pD]
    apply mixF 10 (by kernel_rfl) (by rfl) (by rfl)
    ·(intro w' hx; obtain ⟨y0, y1, y2, y3, y4⟩ := (b4.ext hx).c5; go_simp <;> with_reducible rfl)
    simp only [pA, pB, pC, pD]
    apply mixF 11 (by kernel_rfl) (by rfl) (by rfl)
    ·(intro w' hx; obtain ⟨y0, y1, y2, y3, y4⟩ := (b4.ext hx).c5; go_simp <;> with_reducible rfl)
    simp only [pA, pB, pC, pD]
    apply mixF 12 (by kernel_rfl) (by rfl) (by rfl)
    ·(intro w' hx; obtain ⟨y0, y1, y2, y3, y4⟩ := (b4.ext hx).c5; go_simp <;> with_reducible rfl)
    simp only [pA, pB, pC, pD]
    apply mixF 13 (by kernel_rfl) (by rfl) (by rfl)
    ·(intro w' hx; obtain ⟨y0, y1, y2, y3, y4⟩ := (b4.ext hx).c5; go_simp <;> with_reducible rfl)
    simp only [pA, pB, pC, pD]
    apply mixF 14 (by kernel_rfl) (by rfl) (by rfl)
    ·(intro w' hx; obtain ⟨y0, y1, y2, y3, y4⟩ := (b4.ext hx).c5; go_simp <;> with_reducible rfl)
    simp only [pA, pB, pC, pD]
    apply mixF 15 (by kernel_rfl) (by rfl) (by rfl)
    ·(intro w' hx; obtain ⟨y0, y1, y2, y3, y4⟩ := (b4.ext hx).c5; go_simp <;> with_reducible rfl)
    simp only [pA, pB, pC, pD]
    refine mixFskip 16 (by kernel_rfl) (by rfl) (by rfl) ?_
    simp only [pA, pB, pC, pD]
    refine mixFskip 17 (by kernel_rfl) (by rfl) (by rfl) ?_
    simp only [pA, pB, pC, pD]
    refine mixFskip 18 (by kernel_rfl) (by rfl) (by rfl) ?_
    simp only [pA, pB, pC, pD]
    apply mixF 19 (by kernel_rfl) (by rfl) (by rfl)
    ·(intro w' hx; go_simp <;> with_reducible rfl)
    simp only [pA, pB, pC, pD]
    apply mixF 20 (by kernel_rfl) (by rfl) (by rfl)
    ·(intro w' hx; go_simp <;> with_reducible rfl)
    simp only [pA, pB, pC, pD]
    refine mixFskip 21 (by kernel_rfl) (by rfl) (by rfl) ?_
    simp only [pA, pB, pC, pD]
    refine mixFskip 22 (by kernel_rfl) (by rfl) (by rfl) ?_
    simp only [pA, pB, pC, pD]
    refine mixFskip 23 (by kernel_rfl) (by rfl) (by rfl) ?_
    simp only [pA, pB, pC, pD]
    refine mixFskip 24 (by kernel_rfl) (by rfl) (by rfl) ?_
    simp only [pA, pB, pC, pD]
    refine mixFskip 25 (by kernel_rfl) (by rfl) (by rfl) ?_
    simp only [pA, pB, pC, pD]
    refine mixFskip 26 (by kernel_rfl) (by rfl) (by rfl) ?_
    simp only [pA, pB, pC, pD]
    refine mixFskip 27 (by kernel_rfl) (by rfl) (by rfl) ?_
    simp only [pA, pB, pC, pD]
    refine mixFskip 28 (by kernel_rfl) (by rfl) (by rfl) ?_
    simp only [pA, pB, pC, pD]
    refine mixFskip 29 (by kernel_rfl) (by rfl) (by rfl) ?_
    simp only [pA, pB, pC, pD]
    refine mixFskip 30 (by kernel_rfl) (by rfl) (by rfl) ?_
    simp only [pA, pB, pC, pD]
    refine mixFskip 31 (by kernel_rfl) (by rfl) (by rfl) ?_
    simp only [pA, pB, pC, pD]
    refine mixFskip 32 (by kernel_rfl) (by rfl) (by rfl) ?_
    simp only [pA, pB, pC, pD]
    apply mixF 33 (by kernel_rfl) (by rfl) (by rfl)
    ·(intro w' hx; go_simp <;> with_reducible rfl)
    simp only [pA, pB, pC, pD]
    refine mixEnd (by kernel_rfl) ?_
    go_wp2_with fail
    go_ret
    exact ⟨false, rfl, Lib.hid ⟨fun h => (by cases h), fun h => ((BAD.out h).elim)⟩, hd⟩
   have q3 : decide (x.pair < 0) = false := by simpa using hp
   by_cases hp2 : 1000 < x.pair
   ·have q4 : decide (1000 < x.pair) = true := by simpa using hp2
    have BAD : Hid (iRight l → False) := Lib.hid (fun h => by have := ((eOne_iff x).1 (ONE.out h)).2.2.2; omega)
    clear hk
    refine wp_region_ext 34 [0, 1, 3, 4, 5, 6, 7, 8, 9, 10, 11, 12, 13, 14, 15, 16, 17, 18, 19, 20, 21, 22, 23, 24, 25, 26, 27, 28, 29, 30, 31, 32, 33] false rfl (by kernel_rfl) (by kernel_rfl) ?_
    generalize w1.drew = D at hd b4 hu1 ⊢
    apply mixF 0 (by kernel_rfl) (by rfl) (by rfl)
    ·(intro w' hx; obtain ⟨y0, y1, y2, y3, y4⟩ := (b4.ext hx).c5; go_simp <;> with_reducible rfl)
    simp only [pA, pB, pC, pD]
    apply mixF 1 (by kernel_rfl) (by rfl) (by rfl)
    ·(intro w' hx; obtain ⟨y0, y1, y2, y3, y4⟩ := (b4.ext hx).c5; go_simp <;> with_reducible rfl)
    simp only [pA, pB, pC, pD]
    refine mixS 2 (by kernel_rfl) (by kernel_rfl) (by rfl) (by rfl) (fun K hK => ?_)
    go_wp2_with (go_at_call 28; refine (refWrong_v (r := x.rcd) ⟨_, rfl, hu1⟩).mono ?_; rintro e w2 ⟨rfl, he⟩)
    refine hK.out _ _ (he) ?_
    clear hK K
    try simp only [pA, pB, pC, pD]
    have hd := ext_trans hd he
    have b4 := b4.ext he
    clear he
    apply mixF 3 (by kernel_rfl) (by rfl) (by rfl)
    ·(intro w' hx; obtain ⟨y0, y1, y2, y3, y4⟩ := (b4.ext hx).c5; go_simp <;> with_reducible rfl)
    simp only [pA, pB, pC, pD]
    apply mixF 4 (by kernel_rfl) (by rfl) (by rfl)
    ·(intro w' hx; obtain ⟨y0, y1, y2, y3, y4⟩ := (b4.ext hx).c5; go_simp <;> with_reducible rfl)
    simp only [pA, pB, pC, pD]
    apply mixF 5 (by kernel_rfl) (by rfl) (by rfl)
    ·(intro w' hx; obtain ⟨y0, y1, y2, y3, y4⟩ := (b4.ext hx).c5; go_simp <;> with_reducible rfl)
    simp only [pA, pB, pC, pD]
    apply mixF 6 (by kernel_rfl) (by rfl) (by rfl)
    ·(intro w' hx; obtain ⟨y0, y1, y2, y3, y4⟩ := (b4.ext hx).c5; go_simp <;> with_reducible rfl)
    simp only [pA, pB, pC, pD]
    apply mixF 7 (by kernel_rfl) (by rfl) (by rfl)
    ·(intro w' hx; obtain ⟨y0, y1, y2, y3, y4⟩ := (b4.ext hx).c5; go_simp <;> with_reducible rfl)
    simp only [pA, pB, pC, pD]
    apply mixF 8 (by kernel_rfl) (by rfl) (by rfl)
    ·(intro w' hx; obtain ⟨y0, y1, y2, y3, y4⟩ := (b4.ext hx).c5; go_simp <;> with_reducible rfl)
    simp only [pA, pB, pC, pD]
    apply mixF 9 (by kernel_rfl) (by rfl) (by rfl)
    ·(intro w' hx; obtain ⟨y0, y1, y2, y3, y4⟩ := (b4.ext hx).c5; go_simp <;> with_reducible rfl)
    simp only [pA, pB, pC, pD]
    apply mixF 10 (by kernel_rfl) (by rfl) (by rfl)
    ·(intro w' hx; obtain ⟨y0, y1, y2, y3, y4⟩ := (b4.ext hx).c5; go_simp <;> with_reducible rfl)
    simp only [pA, pB, pC, pD]
    apply mixF 11 (by kernel_rfl) (by rfl) (by rfl)
    ·(intro w' hx; obtain ⟨y0, y1, y2, y3, y4⟩ := (b4.ext hx).c5; go_simp <;> with_reducible rfl)
    simp only [pA, pB, pC, pD]
    apply mixF 12 (by kernel_rfl) (by rfl) (by rfl)
    ·(intro w' hx; obtain ⟨y0, y1, y2, y3, y4⟩ := (b4.ext hx).c5; go_simp <;> with_reducible rfl)
    simp only [pA, pB, pC, pD]
    apply mixF 13 (by kernel_rfl) (by rfl) (by rfl)
    ·(intro w' hx; obtain ⟨y0, y1, y2, y3, y4⟩ := (b4.ext hx).c5; go_simp <;> with_reducible rfl)
    simp only [pA, pB, pC, pD]
    apply mixF 14 (by kernel_rfl) (by rfl) (by rfl)
    ·(intro w' hx; obtain ⟨y0, y1, y2, y3, y4⟩ := (b4.ext hx).c5; go_simp <;> with_reducible rfl)
    simp only [pA, pB, pC, pD]
    apply mixF 15 (by kernel_rfl) (by rfl) (by rfl)
    ·(intro w' hx; obtain ⟨y0, y1, y2, y3, y4⟩ := (b4.ext hx).c5; go_simp <;> with_reducible rfl)
    simp only [pA, pB, pC, pD]
    apply mixF 16 (by kernel_rfl) (by rfl) (by rfl)
    ·(intro w' hx; obtain ⟨y0, y1, y2, y3, y4⟩ := (b4.ext hx).c5; go_simp <;> with_reducible rfl)
    simp only [pA, pB, pC, pD]
    apply mixF 17 (by kernel_rfl) (by rfl) (by rfl)
    ·(intro w' hx; obtain ⟨y0, y1, y2, y3, y4⟩ := (b4.ext hx).c5; go_simp <;> with_reducible rfl)
    simp only [pA, pB, pC, pD]
    apply mixF 18 (by kernel_rfl) (by rfl) (by rfl)
    ·(intro w' hx; obtain ⟨y0, y1, y2, y3, y4⟩ := (b4.ext hx).c5; go_simp <;> with_reducible rfl)
    simp only [pA, pB, pC, pD]
    apply mixF 19 (by kernel_rfl) (by rfl) (by rfl)
    ·(intro w' hx; obtain ⟨y0, y1, y2, y3, y4⟩ := (b4.ext hx).c5; go_simp <;> with_reducible rfl)
    simp only [pA, pB, pC, pD]
    apply mixF 20 (by kernel_rfl) (by rfl) (by rfl)
    ·(intro w' hx; obtain ⟨y0, y1, y2, y3, y4⟩ := (b4.ext hx).c5; go_simp <;> with_reducible rfl)
    simp only [pA, pB, pC, pD]
    refine mixFskip 21 (by kernel_rfl) (by rfl) (by rfl) ?_
    simp only [pA, pB, pC, pD]
    refine mixFskip 22 (by kernel_rfl) (by rfl) (by rfl) ?_
    simp only [pA, pB, pC, pD]
    refine mixFskip 23 (by kernel_rfl) (by rfl) (by rfl) ?_
    simp only [pA, pB, pC, pD]
    refine mixFskip 24 (by kernel_rfl) (by rfl) (by rfl) ?_
    simp only [pA, pB, pC, pD]
    refine mixFskip 25 (by kernel_rfl) (by rfl) (by rfl) ?_
    simp only [pA, pB, pC, pD]
    refine mixFskip 26 (by kernel_rfl) (by rfl) (by rfl) ?_
    simp only [pA, pB, pC, pD]
    refine mixFskip 27 (by kernel_rfl) (by rfl) (by rfl) ?_
    simp only [pA, pB, pC, pD]
    refine mixFskip 28 (by kernel_rfl) (by rfl) (by rfl) ?_
    simp only [pA, pB, pC, pD]
    refine mixFskip 29 (by kernel_rfl) (by rfl) (by rfl) ?_
    simp only [pA, pB, pC, pD]
    refine mixFskip 30 (by kernel_rfl) (by rfl) (by rfl) ?_
    simp only [pA, pB, pC, pD]
    refine mixFskip 31 (by kernel_rfl) (by rfl) (by rfl) ?_
    simp only [pA, pB, pC, pD]
    refine mixFskip 32 (by kernel_rfl) (by rfl) (by rfl) ?_
    simp only [pA, pB, pC, pD]
    apply mixF 33 (by kernel_rfl) (by rfl) (by rfl)
    ·(intro w' hx; go_simp <;> with_reducible rfl)
    simp only [pA, pB, pC, pD]
    refine mixEnd (by kernel_rfl) ?_
    go_wp2_with fail
    go_ret
    exact ⟨false, rfl, Lib.hid ⟨fun h => (by cases h), fun h => ((BAD.out h).elim)⟩, hd⟩
   have q4 : decide (1000 < x.pair) = false := by simpa using hp2
   have HONE := Lib.hid ((eOne_iff x).2 ⟨hw, hk, by omega, by omega⟩)
   have lg4 := b4.lt
   rcases a with _ | b
   ·have q5 : decide ((0 : Int) < 0) = false := rfl
    have STEP2 := Lib.hid (fun h3 => STEP.out HONE.out (fun b hb => by omega) h3)
    clear hk hw hp hp2
    rw [show ((0 : Nat) : Int) = 0 from rfl]
    refine wp_region_ext 34 [0, 1, 3, 4, 5, 6, 7, 8, 9, 10, 11, 12, 13, 14, 15, 16, 17, 18, 19, 20, 21, 22, 23, 24, 25, 26, 27, 28, 29, 30, 31, 32, 33] false rfl (by kernel_rfl) (by kernel_rfl) ?_
    generalize w1.drew = D at hd b4 hu1 ⊢
    apply mixF 0 (by kernel_rfl) (by rfl) (by rfl)
    ·(intro w' hx; obtain ⟨y0, y1, y2, y3, y4⟩ := (b4.ext hx).c5; go_simp <;> with_reducible rfl)
    simp only [pA, pB, pC, pD]
    apply mixF 1 (by kernel_rfl) (by rfl) (by rfl)
    ·(intro w' hx; obtain ⟨y0, y1, y2, y3, y4⟩ := (b4.ext hx).c5; go_simp <;> with_reducible rfl)
    simp only [pA, pB, pC, pD]
    refine mixS 2 (by kernel_rfl) (by kernel_rfl) (by rfl) (by rfl) (fun K hK => ?_)
    go_wp2_with (go_at_call 28; refine (refWrong_v (r := x.rcd) ⟨_, rfl, hu1⟩).mono ?_; rintro e w2 ⟨rfl, he⟩)
    refine hK.out _ _ (he) ?_
    clear hK K
    try simp only [pA, pB, pC, pD]
    have hd := ext_trans hd he
    have b4 := b4.ext he
    clear he
    apply mixF 3 (by kernel_rfl) (by rfl) (by rfl)
    ·(intro w' hx; obtain ⟨y0, y1, y2, y3, y4⟩ := (b4.ext hx).c5; go_simp <;> with_reducible rfl)
    simp only [pA, pB, pC, pD]
    apply mixF 4 (by kernel_rfl) (by rfl) (by rfl)
    ·(intro w' hx; obtain ⟨y0, y1, y2, y3, y4⟩ := (b4.ext hx).c5; go_simp <;> with_reducible rfl)
    simp only [pA, pB, pC, pD]
    apply mixF 5 (by kernel_rfl) (by rfl) (by rfl)
    ·(intro w' hx; obtain ⟨y0, y1, y2, y3, y4⟩ := (b4.ext hx).c5; go_simp <;> with_reducible rfl)
    simp only [pA, pB, pC, pD]
    apply mixF 6 (by kernel_rfl) (by rfl) (by rfl)
    ·(intro w' hx; obtain ⟨y0, y1, y2, y3, y4⟩ := (b4.ext hx).c5; go_simp <;> with_reducible rfl)
    simp only [pA, pB, pC, pD]
    apply mixF 7 (by kernel_rfl) (by rfl) (by rfl)
    ·(intro w' hx; obtain ⟨y0, y1, y2, y3, y4⟩ := (b4.ext hx).c5; go_simp <;> with_reducible rfl)
    simp only [pA, pB, pC, pD]
    apply mixF 8 (by kernel_rfl) (by rfl) (by rfl)
    ·(intro w' hx; obtain ⟨y0, y1, y2, y3, y4⟩ := (b4.ext hx).c5; go_simp <;> with_reducible rfl)
    simp only [pA, pB, pC, pD]
    apply mixF 9 (by kernel_rfl) (by rfl) (by rfl)
    ·(intro w' hx; obtain ⟨y0, y1, y2, y3, y4⟩ := (b4.ext hx).c5; go_simp <;> with_reducible rfl)
    simp only [pA, pB, pC, pD]
    apply mixF 10 (by kernel_rfl) (by rfl) (by rfl)
    ·(intro w' hx; obtain ⟨y0, y1, y2, y3, y4⟩ := (b4.ext hx).c5; go_simp <;> with_reducible rfl)
    simp only [pA, pB, pC, pD]
    apply mixF 11 (by kernel_rfl) (by rfl) (by rfl)
    ·(intro w' hx; obtain ⟨y0, y1, y2, y3, y4⟩ := (b4.ext hx).c5; go_simp <;> with_reducible rfl)
    simp only [pA, pB, pC, pD]
    apply mixF 12 (by kernel_rfl) (by rfl) (by rfl)
    ·(intro w' hx; obtain ⟨y0, y1, y2, y3, y4⟩ := (b4.ext hx).c5; go_simp <;> with_reducible rfl)
    simp only [pA, pB, pC, pD]
    apply mixF 13 (by kernel_rfl) (by rfl) (by rfl)
    ·(intro w' hx; obtain ⟨y0, y1, y2, y3, y4⟩ := (b4.ext hx).c5; go_simp <;> with_reducible rfl)
    simp only [pA, pB, pC, pD]
    apply mixF 14 (by kernel_rfl) (by rfl) (by rfl)
    ·(intro w' hx; obtain ⟨y0, y1, y2, y3, y4⟩ := (b4.ext hx).c5; go_simp <;> with_reducible rfl)
    simp only [pA, pB, pC, pD]
    apply mixF 15 (by kernel_rfl) (by rfl) (by rfl)
    ·(intro w' hx; obtain ⟨y0, y1, y2, y3, y4⟩ := (b4.ext hx).c5; go_simp <;> with_reducible rfl)
    simp only [pA, pB, pC, pD]
    apply mixF 16 (by kernel_rfl) (by rfl) (by rfl)
    ·(intro w' hx; obtain ⟨y0, y1, y2, y3, y4⟩ := (b4.ext hx).c5; go_simp <;> with_reducible rfl)
    simp only [pA, pB, pC, pD]
    apply mixF 17 (by kernel_rfl) (by rfl) (by rfl)
    ·(intro w' hx; obtain ⟨y0, y1, y2, y3, y4⟩ := (b4.ext hx).c5; go_simp <;> with_reducible rfl)
    simp only [pA, pB, pC, pD]
    apply mixF 18 (by kernel_rfl) (by rfl) (by rfl)
    ·(intro w' hx; obtain ⟨y0, y1, y2, y3, y4⟩ := (b4.ext hx).c5; go_simp <;> with_reducible rfl)
    simp only [pA, pB, pC, pD]
    apply mixF 19 (by kernel_rfl) (by rfl) (by rfl)
    ·(intro w' hx; obtain ⟨y0, y1, y2, y3, y4⟩ := (b4.ext hx).c5; go_simp <;> with_reducible rfl)
    simp only [pA, pB, pC, pD]
    apply mixF 20 (by kernel_rfl) (by rfl) (by rfl)
    ·(intro w' hx; obtain ⟨y0, y1, y2, y3, y4⟩ := (b4.ext hx).c5; go_simp <;> with_reducible rfl)
    simp only [pA, pB, pC, pD]
    apply mixF 21 (by kernel_rfl) (by rfl) (by rfl)
    ·(intro w' hx; obtain ⟨y0, y1, y2, y3, y4⟩ := (b4.ext hx).c5; go_simp <;> with_reducible rfl)
    simp only [pA, pB, pC, pD]
    apply mixF 22 (by kernel_rfl) (by rfl) (by rfl)
    ·(intro w' hx; obtain ⟨y0, y1, y2, y3, y4⟩ := (b4.ext hx).c5; go_simp <;> with_reducible rfl)
    simp only [pA, pB, pC, pD]
    apply mixF 23 (by kernel_rfl) (by rfl) (by rfl)
    ·(intro w' hx; obtain ⟨y0, y1, y2, y3, y4⟩ := (b4.ext hx).c5; go_simp <;> with_reducible rfl)
    simp only [pA, pB, pC, pD]
    refine mixFskip 24 (by kernel_rfl) (by rfl) (by rfl) ?_
    simp only [pA, pB, pC, pD]
    refine mixFskip 25 (by kernel_rfl) (by rfl) (by rfl) ?_
    simp only [pA, pB, pC, pD]
    refine mixFskip 26 (by kernel_rfl) (by rfl) (by rfl) ?_
    simp only [pA, pB, pC, pD]
    refine mixFskip 27 (by kernel_rfl) (by rfl) (by rfl) ?_
    simp only [pA, pB, pC, pD]
    refine mixFskip 28 (by kernel_rfl) (by rfl) (by rfl) ?_
    simp only [pA, pB, pC, pD]
    refine mixFskip 29 (by kernel_rfl) (by rfl) (by rfl) ?_
    simp only [pA, pB, pC, pD]
    refine mixFskip 30 (by kernel_rfl) (by rfl) (by rfl) ?_
    simp only [pA, pB, pC, pD]
    refine mixFskip 31 (by kernel_rfl) (by rfl) (by rfl) ?_
    simp only [pA, pB, pC, pD]
    apply mixF 32 (by kernel_rfl) (by rfl) (by rfl)
    ·(intro w' hx; go_simp <;> with_reducible rfl)
    simp only [pA, pB, pC, pD]
    apply mixF 33 (by kernel_rfl) (by rfl) (by rfl)
    ·(intro w' hx; go_simp <;> with_reducible rfl)
    simp only [pA, pB, pC, pD]
    refine mixEnd (by kernel_rfl) ?_
    clear q1 q2 q3 q4 q5
    go_wp2_with fail
    go_loopw [52] (fun i wr => ∃ j : Nat, j ≤ 0 ∧ i = .int .i64 j ∧ Hid (∀ i, i < j → (l.getD i ⟨rZero, 0⟩).pair ≠ x.pair) ∧ Box wr g4 74 #[.int .i64 x.rcd.kind, .int .i64 x.rcd.key, .int .i64 x.rcd.ver, .slice A1 n1 c1, .int .i64 x.pair] ∧ Ext w wr) (fun i _ => 0 - (intOf i).toNat)
    case atStart => exact ⟨0, by omega, rfl, fun i hi => (by omega), b4, hd⟩
    case round =>
     clear hd b4
     obtain ⟨j, hj, rfl, HJ, b4, hd⟩ := hrel
     by_cases hlj : j < 0
     ·skip
      exact absurd hlj (Nat.not_lt_zero _)
     ·obtain rfl : j = 0 := by omega
      have HR := Lib.hid (STEP2.out (fun y hy => by
       obtain ⟨i, hi, _, rfl⟩ := take_mem hy
       exact HJ.out i hi))
      go_wp2_with fail
      refine ⟨⟨0 + 1, by omega, rfl, HR.out, hd⟩, ?_⟩
      simp only [intOf]
      omega
   ·have q5 : decide ((0 : Int) < ((b + 1 : Nat) : Int)) = true := by rw [decide_eq_true_eq]; omega
    have eb0 : (0 : Int) ≤ (b : Int) := by omega
    have eb1 : (b : Int) < (n : Int) := by omega
    have hwb : IntKind.i64.wrap (b : Int) = (b : Int) := by rw [IntKind.wrap_i64]; omega
    obtain ⟨g3, o3, u3, hA3, hg3, hu3, f3⟩ := h.ent_x (i := b) (by omega)
    obtain ⟨rfl, rfl⟩ : g1 = g3 ∧ o1 = o3 := by simpa using hA3
    have LTB := Lib.hid (fun h => HX.out ▸ LT.out h b rfl)
    have STEP2 := Lib.hid (fun (hlt : eLt (l.getD b ⟨rZero, 0⟩) x) h3 => STEP.out HONE.out (fun b' hb => by
     obtain rfl : b' = b := by omega
     exact hlt) h3)
    generalize l.getD b ⟨rZero, 0⟩ = y at hu3 f3 LTB STEP2
    obtain ⟨A3, n3, c3, rfl, _, _⟩ := hu3.form
    have hu3 := hu3.ext hd
    clear hk hw hp hp2 hA3 hg3
    refine wp_region_ext 34 [0, 1, 3, 4, 5, 6, 7, 8, 9, 10, 11, 12, 13, 14, 15, 16, 17, 18, 19, 20, 21, 22, 23, 24, 25, 26, 27, 28, 29, 31, 32, 33] false rfl (by kernel_rfl) (by kernel_rfl) ?_
    generalize w1.drew = D at hd b4 hu1 hu3 ⊢
    apply mixF 0 (by kernel_rfl) (by rfl) (by rfl)
    ·(intro w' hx; obtain ⟨y0, y1, y2, y3, y4⟩ := (b4.ext hx).c5; go_simp <;> with_reducible rfl)
    simp only [pA, pB, pC, pD]
    apply mixF 1 (by kernel_rfl) (by rfl) (by rfl)
    ·(intro w' hx; obtain ⟨y0, y1, y2, y3, y4⟩ := (b4.ext hx).c5; go_simp <;> with_reducible rfl)
    simp only [pA, pB, pC, pD]
    refine mixS 2 (by kernel_rfl) (by kernel_rfl) (by rfl) (by rfl) (fun K hK => ?_)
    go_wp2_with (go_at_call 28; refine (refWrong_v (r := x.rcd) ⟨_, rfl, hu1⟩).mono ?_; rintro e w2 ⟨rfl, he⟩)
    refine hK.out _ _ (he) ?_
    clear hK K
    try simp only [pA, pB, pC, pD]
    have hd := ext_trans hd he
    have b4 := b4.ext he
    have hu1 := hu1.ext he
    have hu3 := hu3.ext he
    clear he
    apply mixF 3 (by kernel_rfl) (by rfl) (by rfl)
    ·(intro w' hx; (obtain ⟨y0, y1, y2, y3, y4⟩ := (b4.ext hx).c5; obtain ⟨z0, z1, z2, z3, z4⟩ := f3 _ (ext_trans hd hx)); go_simp <;> with_reducible rfl)
    simp only [pA, pB, pC, pD]
    apply mixF 4 (by kernel_rfl) (by rfl) (by rfl)
    ·(intro w' hx; (obtain ⟨y0, y1, y2, y3, y4⟩ := (b4.ext hx).c5; obtain ⟨z0, z1, z2, z3, z4⟩ := f3 _ (ext_trans hd hx)); go_simp <;> with_reducible rfl)
    simp only [pA, pB, pC, pD]
    apply mixF 5 (by kernel_rfl) (by rfl) (by rfl)
    ·(intro w' hx; (obtain ⟨y0, y1, y2, y3, y4⟩ := (b4.ext hx).c5; obtain ⟨z0, z1, z2, z3, z4⟩ := f3 _ (ext_trans hd hx)); go_simp <;> with_reducible rfl)
    simp only [pA, pB, pC, pD]
    apply mixF 6 (by kernel_rfl) (by rfl) (by rfl)
    ·(intro w' hx; (obtain ⟨y0, y1, y2, y3, y4⟩ := (b4.ext hx).c5; obtain ⟨z0, z1, z2, z3, z4⟩ := f3 _ (ext_trans hd hx)); go_simp <;> with_reducible rfl)
    simp only [pA, pB, pC, pD]
    apply mixF 7 (by kernel_rfl) (by rfl) (by rfl)
    ·(intro w' hx; (obtain ⟨y0, y1, y2, y3, y4⟩ := (b4.ext hx).c5; obtain ⟨z0, z1, z2, z3, z4⟩ := f3 _ (ext_trans hd hx)); go_simp <;> with_reducible rfl)
    simp only [pA, pB, pC, pD]
    apply mixF 8 (by kernel_rfl) (by rfl) (by rfl)
    ·(intro w' hx; (obtain ⟨y0, y1, y2, y3, y4⟩ := (b4.ext hx).c5; obtain ⟨z0, z1, z2, z3, z4⟩ := f3 _ (ext_trans hd hx)); go_simp <;> with_reducible rfl)
    simp only [pA, pB, pC, pD]
    apply mixF 9 (by kernel_rfl) (by rfl) (by rfl)
    ·(intro w' hx; (obtain ⟨y0, y1, y2, y3, y4⟩ := (b4.ext hx).c5; obtain ⟨z0, z1, z2, z3, z4⟩ := f3 _ (ext_trans hd hx)); go_simp <;> with_reducible rfl)
    simp only [pA, pB, pC, pD]
    apply mixF 10 (by kernel_rfl) (by rfl) (by rfl)
    ·(intro w' hx; (obtain ⟨y0, y1, y2, y3, y4⟩ := (b4.ext hx).c5; obtain ⟨z0, z1, z2, z3, z4⟩ := f3 _ (ext_trans hd hx)); go_simp <;> with_reducible rfl)
    simp only [pA, pB, pC, pD]
    apply mixF 11 (by kernel_rfl) (by rfl) (by rfl)
    ·(intro w' hx; (obtain ⟨y0, y1, y2, y3, y4⟩ := (b4.ext hx).c5; obtain ⟨z0, z1, z2, z3, z4⟩ := f3 _ (ext_trans hd hx)); go_simp <;> with_reducible rfl)
    simp only [pA, pB, pC, pD]
    apply mixF 12 (by kernel_rfl) (by rfl) (by rfl)
    ·(intro w' hx; (obtain ⟨y0, y1, y2, y3, y4⟩ := (b4.ext hx).c5; obtain ⟨z0, z1, z2, z3, z4⟩ := f3 _ (ext_trans hd hx)); go_simp <;> with_reducible rfl)
    simp only [pA, pB, pC, pD]
    apply mixF 13 (by kernel_rfl) (by rfl) (by rfl)
    ·(intro w' hx; (obtain ⟨y0, y1, y2, y3, y4⟩ := (b4.ext hx).c5; obtain ⟨z0, z1, z2, z3, z4⟩ := f3 _ (ext_trans hd hx)); go_simp <;> with_reducible rfl)
    simp only [pA, pB, pC, pD]
    apply mixF 14 (by kernel_rfl) (by rfl) (by rfl)
    ·(intro w' hx; (obtain ⟨y0, y1, y2, y3, y4⟩ := (b4.ext hx).c5; obtain ⟨z0, z1, z2, z3, z4⟩ := f3 _ (ext_trans hd hx)); go_simp <;> with_reducible rfl)
    simp only [pA, pB, pC, pD]
    apply mixF 15 (by kernel_rfl) (by rfl) (by rfl)
    ·(intro w' hx; (obtain ⟨y0, y1, y2, y3, y4⟩ := (b4.ext hx).c5; obtain ⟨z0, z1, z2, z3, z4⟩ := f3 _ (ext_trans hd hx)); go_simp <;> with_reducible rfl)
    simp only [pA, pB, pC, pD]
    apply mixF 16 (by kernel_rfl) (by rfl) (by rfl)
    ·(intro w' hx; (obtain ⟨y0, y1, y2, y3, y4⟩ := (b4.ext hx).c5; obtain ⟨z0, z1, z2, z3, z4⟩ := f3 _ (ext_trans hd hx)); go_simp <;> with_reducible rfl)
    simp only [pA, pB, pC, pD]
    apply mixF 17 (by kernel_rfl) (by rfl) (by rfl)
    ·(intro w' hx; (obtain ⟨y0, y1, y2, y3, y4⟩ := (b4.ext hx).c5; obtain ⟨z0, z1, z2, z3, z4⟩ := f3 _ (ext_trans hd hx)); go_simp <;> with_reducible rfl)
    simp only [pA, pB, pC, pD]
    apply mixF 18 (by kernel_rfl) (by rfl) (by rfl)
    ·(intro w' hx; (obtain ⟨y0, y1, y2, y3, y4⟩ := (b4.ext hx).c5; obtain ⟨z0, z1, z2, z3, z4⟩ := f3 _ (ext_trans hd hx)); go_simp <;> with_reducible rfl)
    simp only [pA, pB, pC, pD]
    apply mixF 19 (by kernel_rfl) (by rfl) (by rfl)
    ·(intro w' hx; (obtain ⟨y0, y1, y2, y3, y4⟩ := (b4.ext hx).c5; obtain ⟨z0, z1, z2, z3, z4⟩ := f3 _ (ext_trans hd hx)); go_simp <;> with_reducible rfl)
    simp only [pA, pB, pC, pD]
    apply mixF 20 (by kernel_rfl) (by rfl) (by rfl)
    ·(intro w' hx; (obtain ⟨y0, y1, y2, y3, y4⟩ := (b4.ext hx).c5; obtain ⟨z0, z1, z2, z3, z4⟩ := f3 _ (ext_trans hd hx)); go_simp <;> with_reducible rfl)
    simp only [pA, pB, pC, pD]
    apply mixF 21 (by kernel_rfl) (by rfl) (by rfl)
    ·(intro w' hx; (obtain ⟨y0, y1, y2, y3, y4⟩ := (b4.ext hx).c5; obtain ⟨z0, z1, z2, z3, z4⟩ := f3 _ (ext_trans hd hx)); go_simp <;> with_reducible rfl)
    simp only [pA, pB, pC, pD]
    apply mixF 22 (by kernel_rfl) (by rfl) (by rfl)
    ·(intro w' hx; (obtain ⟨y0, y1, y2, y3, y4⟩ := (b4.ext hx).c5; obtain ⟨z0, z1, z2, z3, z4⟩ := f3 _ (ext_trans hd hx)); go_simp <;> with_reducible rfl)
    simp only [pA, pB, pC, pD]
    apply mixF 23 (by kernel_rfl) (by rfl) (by rfl)
    ·(intro w' hx; (obtain ⟨y0, y1, y2, y3, y4⟩ := (b4.ext hx).c5; obtain ⟨z0, z1, z2, z3, z4⟩ := f3 _ (ext_trans hd hx)); go_simp <;> with_reducible rfl)
    simp only [pA, pB, pC, pD]
    apply mixF 24 (by kernel_rfl) (by rfl) (by rfl)
    ·(intro w' hx; (obtain ⟨y0, y1, y2, y3, y4⟩ := (b4.ext hx).c5; obtain ⟨z0, z1, z2, z3, z4⟩ := f3 _ (ext_trans hd hx)); go_simp <;> with_reducible rfl)
    simp only [pA, pB, pC, pD]
    apply mixF 25 (by kernel_rfl) (by rfl) (by rfl)
    ·(intro w' hx; (obtain ⟨y0, y1, y2, y3, y4⟩ := (b4.ext hx).c5; obtain ⟨z0, z1, z2, z3, z4⟩ := f3 _ (ext_trans hd hx)); go_simp <;> with_reducible rfl)
    simp only [pA, pB, pC, pD]
    apply mixF 26 (by kernel_rfl) (by rfl) (by rfl)
    ·(intro w' hx; (obtain ⟨y0, y1, y2, y3, y4⟩ := (b4.ext hx).c5; obtain ⟨z0, z1, z2, z3, z4⟩ := f3 _ (ext_trans hd hx)); go_simp <;> with_reducible rfl)
    simp only [pA, pB, pC, pD]
    apply mixF 27 (by kernel_rfl) (by rfl) (by rfl)
    ·(intro w' hx; (obtain ⟨y0, y1, y2, y3, y4⟩ := (b4.ext hx).c5; obtain ⟨z0, z1, z2, z3, z4⟩ := f3 _ (ext_trans hd hx)); go_simp <;> with_reducible rfl)
    simp only [pA, pB, pC, pD]
    apply mixF 28 (by kernel_rfl) (by rfl) (by rfl)
    ·(intro w' hx; (obtain ⟨y0, y1, y2, y3, y4⟩ := (b4.ext hx).c5; obtain ⟨z0, z1, z2, z3, z4⟩ := f3 _ (ext_trans hd hx)); go_simp <;> with_reducible rfl)
    simp only [pA, pB, pC, pD]
    apply mixF 29 (by kernel_rfl) (by rfl) (by rfl)
    ·(intro w' hx; (obtain ⟨y0, y1, y2, y3, y4⟩ := (b4.ext hx).c5; obtain ⟨z0, z1, z2, z3, z4⟩ := f3 _ (ext_trans hd hx)); go_simp <;> with_reducible rfl)
    simp only [pA, pB, pC, pD]
    refine mixS 30 (by kernel_rfl) (by kernel_rfl) (by rfl) (by rfl) (fun K hK => ?_)
    go_wp2_with (go_at_call 111; refine (less_v (EntV.mk hu3) (EntV.mk hu1)).mono ?_; rintro e w3 ⟨rfl, he⟩)
    refine hK.out _ _ (he) ?_
    clear hK K
    try simp only [pA, pB, pC, pD]
    have hd := ext_trans hd he
    have b4 := b4.ext he
    clear he f3 hu3 q1 q2 q3 q4
    by_cases hlt2 : eLt y x
    ·rw [decide_eq_true hlt2]
     have STEP2 := Lib.hid (STEP2.out hlt2)
     apply mixF 31 (by kernel_rfl) (by rfl) (by rfl)
     ·(intro w' hx; go_simp <;> with_reducible rfl)
     simp only [pA, pB, pC, pD]
     apply mixF 32 (by kernel_rfl) (by rfl) (by rfl)
     ·(intro w' hx; go_simp <;> with_reducible rfl)
     simp only [pA, pB, pC, pD]
     apply mixF 33 (by kernel_rfl) (by rfl) (by rfl)
     ·(intro w' hx; go_simp <;> with_reducible rfl)
     simp only [pA, pB, pC, pD]
     refine mixEnd (by kernel_rfl) ?_
     clear q5 hlt2 hwb
     go_wp2_with fail
     go_loopw [52] (fun i wr => ∃ j : Nat, j ≤ b + 1 ∧ i = .int .i64 j ∧ Hid (∀ i, i < j → (l.getD i ⟨rZero, 0⟩).pair ≠ x.pair) ∧ Box wr g4 74 #[.int .i64 x.rcd.kind, .int .i64 x.rcd.key, .int .i64 x.rcd.ver, .slice A1 n1 c1, .int .i64 x.pair] ∧ Ext w wr) (fun i _ => b + 1 - (intOf i).toNat)
     case atStart => exact ⟨0, by omega, rfl, fun i hi => (by omega), b4, hd⟩
     case round =>
      clear hd b4
      obtain ⟨j, hj, rfl, HJ, b4, hd⟩ := hrel
      by_cases hlj : j < b + 1
      ·skip
       have i0 : (0 : Int) ≤ (j : Int) := by omega
       have i1 : (j : Int) < ((b + 1 : Nat) : Int) := by omega
       obtain ⟨g2, o2, u2, hA2, hg2, hu2, f2⟩ := h.ent_x (i := j) (by omega)
       obtain ⟨rfl, rfl⟩ : g1 = g2 ∧ o1 = o2 := by simpa using hA2
       have NEJ := Lib.hid (fun h => NE.out h j (by omega))
       have HJ2 := Lib.hid (fun h0 i (hi : i < j + 1) => if hij : i = j then (by rw [hij]; exact h0 : (l.getD i ⟨rZero, 0⟩).pair ≠ x.pair) else HJ.out i (by omega))
       generalize l.getD j ⟨rZero, 0⟩ = z at hu2 f2 NEJ HJ2
       obtain ⟨A2, n2, c2, rfl, _, _⟩ := hu2.form
       obtain ⟨x0, x1, x2, x3, x4⟩ := f2 _ hd
       clear hA2 hg2 f2
       have lb := b4.lt
       obtain ⟨b4_0, b4_1, b4_2, b4_3, b4_4⟩ := b4.c5
       have b4_z := b4.free
       have b4_l := b4.lt
       by_cases hpp : z.pair = x.pair
       ·have q6 : (z.pair == x.pair) = true := by simpa using hpp
        have BAD : Hid (iRight l → False) := Lib.hid (fun h => NEJ.out h hpp)
        clear hpp
        go_wp2_with fail
        go_ret
        exact ⟨false, rfl, Lib.hid ⟨fun h => (by cases h), fun h => ((BAD.out h).elim)⟩, hd.alloc hd.size _⟩
       ·have q6 : (z.pair == x.pair) = false := by simpa using hpp
        have HP := Lib.hid hpp
        clear hpp
        go_wp2_with fail
        refine ⟨⟨j + 1, by omega, rfl, HJ2.out HP.out, b4.alloc _, hd.alloc hd.size _⟩, ?_⟩
        simp only [intOf]
        omega
      ·obtain rfl : j = b + 1 := by omega
       have HR := Lib.hid (STEP2.out (fun y hy => by
        obtain ⟨i, hi, _, rfl⟩ := take_mem hy
        exact HJ.out i hi))
       go_wp2_with fail
       refine ⟨⟨b + 1 + 1, by omega, rfl, HR.out, hd⟩, ?_⟩
       simp only [intOf]
       omega
    ·rw [decide_eq_false hlt2]
     have BAD : Hid (iRight l → False) := Lib.hid (fun h => hlt2 (LTB.out h))
     apply mixF 31 (by kernel_rfl) (by rfl) (by rfl)
     ·(intro w' hx; go_simp <;> with_reducible rfl)
     simp only [pA, pB, pC, pD]
     apply mixF 32 (by kernel_rfl) (by rfl) (by rfl)
     ·(intro w' hx; go_simp <;> with_reducible rfl)
     simp only [pA, pB, pC, pD]
     apply mixF 33 (by kernel_rfl) (by rfl) (by rfl)
     ·(intro w' hx; go_simp <;> with_reducible rfl)
     simp only [pA, pB, pC, pD]
     refine mixEnd (by kernel_rfl) ?_
     go_wp2_with fail
     go_ret
     exact ⟨false, rfl, Lib.hid ⟨fun h => (by cases h), fun h => ((BAD.out h).elim)⟩, hd⟩
  ·obtain rfl : a = n := by omega
   have hfin : l.take a = l := List.take_of_length_le (by rw [HN.out]; exact Nat.le_refl _)
   have HT2 := HT.out
   rw [hfin] at HT2
   have HT2 := Lib.hid HT2
   clear hfin
   go_wp2_with fail
   go_ret
   exact ⟨true, rfl, Lib.hid ⟨fun _ => HT2.out, fun _ => rfl⟩, hd⟩
end Go.Proofs.Ytpidjkadpnjahaa
