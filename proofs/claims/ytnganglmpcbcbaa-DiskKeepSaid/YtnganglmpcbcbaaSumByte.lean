/- SumByte: the closed fact of chapter 1, and the law's own walk. -/
import Derived.Test.YtnganglmpcbcbaaSum2
import Derived.Lib.SlBytesConst
namespace Go.Proofs.Ytnganglmpcbcbaa
open Go Go.RowKit

/-! ### plain: one byte turned is found -/
theorem sStep_inj (s s' : Int) (c : UInt8) (h : sStep s c = sStep s' c) : (s - s') % 65521 = 0 := by
  unfold sStep at h
  omega
theorem foldl_inj (m : List UInt8) : ∀ (s s' : Int), (m.foldl sStep s - m.foldl sStep s') % 65521 = 0 → (s - s') % 65521 = 0 := by
  induction m with
  | nil => intro s s' h; exact h
  | cons c m ih =>
    intro s s' h
    have h1 := ih _ _ h
    unfold sStep at h1
    omega
theorem sOf_append (l m : List UInt8) : sOf (l ++ m) = m.foldl sStep (sOf l) := by unfold sOf; rw [List.foldl_append]
theorem sOf_mid (A R : List UInt8) (x c : UInt8) (h : sOf (A ++ c :: R) = sOf (A ++ x :: R)) : x = c := by
  rw [sOf_append, sOf_append, List.foldl_cons, List.foldl_cons] at h
  have h5 := foldl_inj R (sStep (sOf A) c) (sStep (sOf A) x) (by rw [h]; omega)
  unfold sStep at h5
  have hc := c.toNat_lt
  have hx' := x.toNat_lt
  apply UInt8.toNat_inj.1
  omega
theorem sOf_set (l : List UInt8) (k : Nat) (c : UInt8) (hk : k < l.length) (h : sOf (l.set k c) = sOf l) : l.getD k 0 = c := by
  have e1 : l = l.take k ++ l.getD k 0 :: l.drop (k + 1) := by
    rw [List.getD_eq_getElem?_getD, List.getElem?_eq_getElem hk]
    simp
  have e2 : l.set k c = l.take k ++ c :: l.drop (k + 1) := by
    rw [List.set_eq_take_append_cons_drop, if_pos hk]
  rw [e2] at h
  exact sOf_mid _ _ _ _ (h.trans (congrArg sOf e1))
theorem sealed_set (b : List UInt8) (k : Nat) (c : UInt8) (hk : k < b.length + 2) (hne : (sSeal b).getD k 0 ≠ c) : sSealed ((sSeal b).set k c) = false := by
  rw [Bool.eq_false_iff]
  intro h
  rw [sSealed_iff] at h
  obtain ⟨b', hb⟩ := h
  have hl : b'.length = b.length := by
    have h1 := congrArg List.length hb
    rw [List.length_set, sSeal_length, sSeal_length] at h1
    omega
  apply hne
  by_cases hkb : k < b.length
  · have e : (sSeal b).set k c = b.set k c ++ sTwo (sOf b) := by
      unfold sSeal
      rw [List.set_append_left _ _ hkb]
    rw [e] at hb
    unfold sSeal at hb
    have h1 := List.append_inj hb (by rw [List.length_set, hl])
    have h2 : sOf b = sOf b' := by
      have := h1.2
      have e1 := sNum_two (sOf b) (sOf_bd b).1 (by have := (sOf_bd b).2; omega)
      have e2 := sNum_two (sOf b') (sOf_bd b').1 (by have := (sOf_bd b').2; omega)
      unfold sTwo at this
      injection this with t1 t2
      injection t2 with t2 _
      rw [t1, t2, e2] at e1
      exact e1.symm
    rw [← h1.1] at h2
    have := sOf_set b k c hkb h2.symm
    unfold sSeal
    rw [List.getD_eq_getElem?_getD, List.getElem?_append_left hkb, ← List.getD_eq_getElem?_getD]
    exact this
  · have e : (sSeal b).set k c = b ++ (sTwo (sOf b)).set (k - b.length) c := by
      unfold sSeal
      rw [List.set_append_right _ _ (by omega)]
    rw [e] at hb
    unfold sSeal at hb
    have h1 := List.append_inj hb hl.symm
    rw [← h1.1] at h1
    unfold sSeal
    rw [List.getD_eq_getElem?_getD, List.getElem?_append_right (by omega), ← List.getD_eq_getElem?_getD]
    have h3 := congrArg (fun l => l.getD (k - b.length) 0) h1.2
    have hlt : k - b.length < 2 := by omega
    simp only [sTwo, List.getD_eq_getElem?_getD] at h3 ⊢
    rw [List.getElem?_set_self (by simpa using hlt)] at h3
    simpa using h3.symm

set_option maxHeartbeats 400000 in
theorem alive1_w (w : World) : Calls Try.prog 34 #[] w fun e w' => e = .returned (.bool true) ∧ Ext w w' := by
  have kc := fun (w : World) (C : Array Value) (n c : Nat) => Lib.run_convert_bytes_const (P := Try.prog) w 22 5 C n c Try.underlying22 Try.underlying5
  have s0 : sOf [] = 3 := rfl
  have S0 := Lib.hid s0
  have s1 : sSealed (sSeal [97, 98]) = true := (sSealed_iff _).2 ⟨_, rfl⟩
  have S1 := Lib.hid s1
  have s2 : sSealed [] = false := sSealed_short _ (by decide)
  have S2 := Lib.hid s2
  clear s0 s1 s2
  go_enter Try.func34, Try.ntmps34
  go_wp2_with (first
    | (go_at_call 30; refine (seal_w _ _ _ (w.heap.size + 1) [97, 98] _ (Sl.new _ _ _ _ 1 2 rfl (by unfold maxLen; omega) (Nat.lt_succ_self _)) (by simp) (by rw [blim_def]; omega)).mono ?_; rintro e w1 ⟨v, rfl, hown1, he1⟩; obtain ⟨A1, c1, rfl, hs1⟩ := own_shape hown1)
    | (go_at_call 27; refine (of_w _ _ _ 0 [] _ (Sl.nil_ _ _ _)).mono ?_; rintro e w' ⟨rfl, rfl⟩; rw [S0.out])
    | (go_at_call 29; refine (number_w _ _ _ (by omega) (by omega)).mono ?_; rintro e w' ⟨rfl, rfl⟩)
    | (go_at_call 26; refine (two_w _ _ (by omega) (by omega)).mono ?_; rintro e w' ⟨rfl, rfl⟩))
  refine (sealed_w _ _ _ _ (sSeal [97, 98]) _ hs1).mono ?_
  rintro e w2 ⟨rfl, he2⟩
  rw [S1.out]
  go_wp2_with fail
  refine (sealed_w _ _ _ 0 [] _ (Sl.nil_ _ _ _)).mono ?_
  rintro e w3 ⟨rfl, he3⟩
  rw [S2.out]
  go_wp2_with (first
    | (go_at_call 29; refine (number_w _ _ _ (by omega) (by omega)).mono ?_; rintro e w' ⟨rfl, rfl⟩)
    | (go_at_call 26; refine (two_b _ _ (by omega) (by omega)).mono ?_; rintro e w4 ⟨g, rfl, _, _, _, he4⟩))
  go_ret
  exact ⟨rfl, ext_trans (ext_trans (ext_trans (ext_trans (ext_alloc _ _) he1) he2) he3) he4⟩

/-! ### the law -/
set_option maxRecDepth 100000 in
set_option maxHeartbeats 400000 in
theorem sumByte_law (w : World) {A : Option Addr} {n c : Nat} {l : List UInt8} {k y : Int} (h : By w w.heap.size A n c l) (hn : n + 4096 ≤ blim)
    (hk : -9223372036854775808 ≤ k ∧ k ≤ 9223372036854775807) (hy : 0 ≤ y ∧ y < 256) :
    Calls Try.prog 4 #[.slice A n c, .int .i64 k, .int .u8 y] w fun e w' => e = .returned (.bool true) ∧ Ext w w' := by
  have hl := h.len
  have hs0 : sSealed (sSeal l) = true := (sSealed_iff _).2 ⟨_, rfl⟩
  have S0 := Lib.hid hs0
  have hm := Sl.max h
  have hc := Sl.cap h
  unfold maxLen at hm
  have Hn := Lib.hid hn
  have hn2 : (n : Int) + 2 ≤ 9223372036854775807 := by rw [blim_def] at hn; omega
  clear hs0 hn
  go_enter Try.func4, Try.ntmps4
  go_wp2_with (go_at_call 34; refine (alive1_w _).mono ?_; rintro e w1 ⟨rfl, he1⟩)
  refine (seal_w _ _ _ w.heap.size l _ (Sl.below h he1) he1.size (by have := Hn.out; omega)).mono ?_
  rintro e w2 ⟨v, rfl, hown, he2⟩
  rcases hown.2 with ⟨_, h0⟩ | ⟨g, cap, cur, rfl, hbg, hg, hnc, hcm, hcs, htake⟩
  · omega
  have hs := Sl.of_own hown
  go_wp2_with fail
  refine (sealed_w _ _ _ _ (sSeal l) _ hs).mono ?_
  rintro e w3 ⟨rfl, he3⟩
  rw [S0.out]
  by_cases k0 : k < 0
  · go_wp2_with fail
    go_ret
    exact ⟨rfl, ext_trans (ext_trans he1 he2) he3⟩
  have k1 : (0 : Int) ≤ k := by omega
  clear k0
  obtain ⟨m, rfl⟩ := Int.eq_ofNat_of_zero_le k1
  by_cases km : n + 2 ≤ m
  · have k2 : (n : Int) + 2 ≤ (m : Int) := by omega
    go_wp2_with fail
    go_ret
    exact ⟨rfl, ext_trans (ext_trans he1 he2) he3⟩
  have k3 : (m : Int) < (n : Int) + 2 := by omega
  have hown3 := own_ext hown he3
  have q1 : decide ((m : Int) < 0) = false := by simp
  have q2 : decide ((n : Int) + 2 ≤ (m : Int)) = false := by simp; omega
  have hfr := hown3.frozenAt m
  obtain ⟨b', o', x, e', _, hcell, hx0, hx1, Hx⟩ := By.byte (l := sSeal l) (Sl.below hs he3) (k := m) (by omega)
  cases e'
  rw [Nat.zero_add] at hcell
  by_cases hxy : x = y
  · subst hxy
    go_wp2_with fail
    go_ret
    exact ⟨rfl, ext_trans (ext_trans he1 he2) he3⟩
  · have hne : (x == y) = false := by simpa using hxy
    have hset : sSealed ((sSeal l).set m (b8 y)) = false := sealed_set l m (b8 y) (by omega) (fun e => by
      apply hxy
      rw [Hx.out, e, b8_toNat]
      omega)
    have Hset := Lib.hid hset
    have hst := (hown3.stored m (.int .u8 y)).1
    have e1 : (u8s (sSeal l)).set m (.int .u8 y) = u8s ((sSeal l).set m (b8 y)) := by
      unfold u8s
      rw [List.map_set]
      congr 1
      unfold u8v
      rw [b8_toNat]
      congr 1
      omega
    rw [e1] at hst
    have Hxy := Lib.hid hxy
    have Hst := Lib.hid hst
    clear hset hxy e1 hst hg htake hcs hcm hnc hown hown3 hs hl
    go_wp2_with fail
    refine (sealed_w _ _ _ _ ((sSeal l).set m (b8 y)) _ (Sl.of_own Hst.out)).mono ?_
    rintro e w4 ⟨rfl, he4⟩
    rw [Hset.out]
    go_wp2_with fail
    go_ret
    refine ⟨rfl, ?_⟩
    have h3 := ext_trans (ext_trans he1 he2) he3
    exact (h3.setCell (p := ⟨g, m, none⟩) (Nat.le_trans he1.size hbg) _).trans (he4.mono (by simp [World.setCell]; exact h3.size))

end Go.Proofs.Ytnganglmpcbcbaa
