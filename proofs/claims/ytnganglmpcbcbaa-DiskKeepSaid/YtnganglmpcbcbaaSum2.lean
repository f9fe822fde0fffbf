/- The walks of chapter 1, on. -/
import Derived.Test.YtnganglmpcbcbaaSum
import Derived.BigQuiet
import Derived.Deep.QuietTactic
import Derived.WalkSpells
import Derived.IntWalk
import Derived.Test.YtnganglmpcbcbaaMix
namespace Go.Proofs.Ytnganglmpcbcbaa
open Go Go.RowKit

theorem sSealed_short (l : List UInt8) (h : l.length < 2) : sSealed l = false := by
  unfold sSealed
  rw [decide_eq_false (by omega)]; rfl

set_option maxHeartbeats 400000 in
theorem sealed_short (A : Option Addr) (n c B : Nat) (l : List UInt8) (w : World) (h : By w B A n c l) (hlt : n < 2) :
    Calls Try.prog 32 #[.slice A n c] w fun e w' => e = .returned (.bool (sSealed l)) ∧ ∃ m, w' = w.drewN m := by
  have hl := h.len
  have hs := Lib.hid (sSealed_short l (by omega))
  have hd : decide ((2 : Int) ≤ (n : Int)) = false := by simp; omega
  clear hl
  go_enter Try.func32, Try.ntmps32
  go_wp2_with fail
  go_quiet (fail)
  go_wp2
  go_ret
  exact ⟨by rw [hs.out]; rfl, _, rfl⟩

set_option maxHeartbeats 400000 in
theorem sealed_long (A : Option Addr) (n c B : Nat) (l : List UInt8) (w : World) (h : By w B A n c l) (hlt : 2 ≤ n) :
    Calls Try.prog 32 #[.slice A n c] w fun e w' => e = .returned (.bool (sSealed l)) ∧ ∃ m, w' = w.drewN m := by
  have hl := h.len
  obtain ⟨m, rfl⟩ : ∃ m, n = m + 2 := ⟨n - 2, by omega⟩
  obtain ⟨b, o, x, rfl, hB, hx, hx0, hx1, Hx⟩ := h.byte (k := m) (by omega)
  obtain ⟨b', o', y, e, _, hy, hy0, hy1, Hy⟩ := h.byte (k := m + 1) (by omega)
  cases e
  have ht := h.take (k := m) (by omega)
  have hcap := Sl.cap h
  have hmax := Sl.max h
  unfold maxLen at hmax
  have hr : sSealed l = decide (x * 256 + y = sOf (l.take m)) := by
    unfold sSealed sNum
    rw [hl, decide_eq_true (by omega), Nat.add_sub_cancel, show m + 2 - 1 = m + 1 by omega, ← Hx.out, ← Hy.out]
    rfl
  have Hr := Lib.hid hr
  have i0 : (0 : Int) ≤ (m : Int) := by omega
  have i1 : (m : Int) < (m : Int) + 2 := by omega
  have i2 : (0 : Int) ≤ (m : Int) + 1 := by omega
  have i3 : (m : Int) + 1 < (m : Int) + 2 := by omega
  have i4 : IntKind.i64.wrap ((m : Int) + 1) = (m : Int) + 1 := IntWalk.i64_in _ (by omega)
  have i5 : ((m : Int) + 1).toNat = m + 1 := by omega
  have i6 : (m : Int) ≤ (c : Int) := by omega
  clear hl hr
  go_enter Try.func32, Try.ntmps32
  go_wp2_with fail
  go_quiet (first | (go_at_call 29; exact Calls.quiet_of_same ((number_w x y _ ⟨hx0, hx1⟩ ⟨hy0, hy1⟩).mono fun _ _ h => ⟨h.1, h.2.symm⟩)) | (go_at_call 27; exact Calls.quiet_of_same ((of_w _ _ _ _ _ _ (Sl.drewN ht _)).mono fun _ _ h => ⟨h.1, h.2.symm⟩)))
  go_wp2
  go_ret
  refine ⟨?_, _, rfl⟩
  rw [Hr.out]
  rfl

theorem ext_drewN (w : World) (m : Nat) : Below w.heap.size w (w.drewN m) := ⟨rfl, rfl, rfl, Nat.le_refl _, fun _ _ => rfl⟩
theorem sealed_q (A : Option Addr) (n c B : Nat) (l : List UInt8) (w : World) (h : By w B A n c l) :
    Calls Try.prog 32 #[.slice A n c] w fun e w' => e = .returned (.bool (sSealed l)) ∧ ∃ m, w' = w.drewN m := by
  rcases Nat.lt_or_ge n 2 with h2 | h2
  · exact sealed_short A n c B l w h h2
  · exact sealed_long A n c B l w h h2
theorem sealed_w (A : Option Addr) (n c B : Nat) (l : List UInt8) (w : World) (h : By w B A n c l) :
    Calls Try.prog 32 #[.slice A n c] w fun e w' => e = .returned (.bool (sSealed l)) ∧ Ext w w' :=
  (sealed_q A n c B l w h).mono fun _ _ ⟨he, m, hm⟩ => ⟨he, by subst hm; exact ext_drewN w m⟩

/-! ### the document's answer -/
set_option maxHeartbeats 400000 in
theorem refSealed_short (A : Option Addr) (n c B : Nat) (l : List UInt8) (w : World) (h : By w B A n c l) (hlt : n < 2) :
    Calls Try.prog 33 #[.slice A n c] w fun e w' => e = .returned (.bool (sSealed l)) ∧ Ext w w' := by
  have hl := h.len
  have hs := Lib.hid (sSealed_short l (by omega))
  have hd : decide ((2 : Int) ≤ (n : Int)) = false := by simp; omega
  clear hl
  go_enter Try.func33, Try.ntmps33
  go_wp2_with fail
  go_quiet (fail)
  go_wp2
  go_ret
  exact ⟨by rw [hs.out]; rfl, ext_drewN _ _⟩

set_option maxHeartbeats 400000 in
theorem refSealed_long (A : Option Addr) (n c B : Nat) (l : List UInt8) (w : World) (h : By w B A n c l) (hB : B ≤ w.heap.size) (hlt : 2 ≤ n) (hn : n ≤ blim) :
    Calls Try.prog 33 #[.slice A n c] w fun e w' => e = .returned (.bool (sSealed l)) ∧ Ext w w' := by
  have hl := h.len
  obtain ⟨m, rfl⟩ : ∃ m, n = m + 2 := ⟨n - 2, by omega⟩
  have ht := h.take (k := m) (by omega)
  have hcap := Sl.cap h
  have hmax := Sl.max h
  unfold maxLen at hmax
  have i0 : (0 : Int) ≤ (m : Int) := by omega
  have i6 : (m : Int) ≤ (c : Int) := by omega
  have i8 : IntKind.i64.wrap (m : Int) = (m : Int) := IntWalk.i64_in _ (by omega)
  have i7 : decide ((2 : Int) ≤ (m : Int) + 2) = true := by simp; omega
  have hstr : ∀ w', Ext w w' → (convert 22 9 (.slice A (m + 2) c)).run Try.prog w' = .ok (.string ⟨l.toArray⟩) w' := fun w' hx => run_str (Sl.below h (hx.mono hB))
  have Hq := Lib.hid (sSeal_take l m hl)
  clear hl
  go_enter Try.func33, Try.ntmps33
  go_wp2_with fail
  refine wp_region_ext 16 [0, 1, 2, 3, 4, 5, 6, 7, 8, 10, 11, 12, 13, 14, 15] false rfl (by kernel_rfl) (by kernel_rfl) ?_
  have hd : Below w.heap.size w w.drew := (Below.refl _ _).drew
  apply mixF 0 (by kernel_rfl) (by rfl) (by rfl)
  · (intro w' hx; go_simp <;> with_reducible rfl)
  simp only [Act.put, List.setIfInBounds_toArray, List.set_cons_zero, List.set_cons_succ]
  apply mixF 1 (by kernel_rfl) (by rfl) (by rfl)
  · (intro w' hx; go_simp <;> with_reducible rfl)
  simp only [Act.put, List.setIfInBounds_toArray, List.set_cons_zero, List.set_cons_succ]
  apply mixF 2 (by kernel_rfl) (by rfl) (by rfl)
  · (intro w' hx; go_simp <;> with_reducible rfl)
  simp only [Act.put, List.setIfInBounds_toArray, List.set_cons_zero, List.set_cons_succ]
  apply mixF 3 (by kernel_rfl) (by rfl) (by rfl)
  · (intro w' hx; go_simp <;> with_reducible rfl)
  simp only [Act.put, List.setIfInBounds_toArray, List.set_cons_zero, List.set_cons_succ]
  apply mixF 4 (by kernel_rfl) (by rfl) (by rfl)
  · (intro w' hx; go_simp <;> with_reducible rfl)
  simp only [Act.put, List.setIfInBounds_toArray, List.set_cons_zero, List.set_cons_succ]
  apply mixF 5 (by kernel_rfl) (by rfl) (by rfl)
  · (intro w' hx; go_simp <;> with_reducible rfl)
  simp only [Act.put, List.setIfInBounds_toArray, List.set_cons_zero, List.set_cons_succ]
  apply mixF 6 (by kernel_rfl) (by rfl) (by rfl)
  · (intro w' hx; go_simp <;> with_reducible rfl)
  simp only [Act.put, List.setIfInBounds_toArray, List.set_cons_zero, List.set_cons_succ]
  apply mixF 7 (by kernel_rfl) (by rfl) (by rfl)
  · (intro w' hx; go_simp <;> with_reducible rfl)
  simp only [Act.put, List.setIfInBounds_toArray, List.set_cons_zero, List.set_cons_succ]
  apply mixF 8 (by kernel_rfl) (by rfl) (by rfl)
  · (intro w' hx; go_simp <;> with_reducible rfl)
  simp only [Act.put, List.setIfInBounds_toArray, List.set_cons_zero, List.set_cons_succ]
  apply mixF 11 (by kernel_rfl) (by rfl) (by rfl)
  · (intro w' hx; go_simp <;> with_reducible rfl)
  simp only [Act.put, List.setIfInBounds_toArray, List.set_cons_zero, List.set_cons_succ]
  apply mixF 12 (by kernel_rfl) (by rfl) (by rfl)
  · (intro w' hx; have hx := ext_trans hd hx; go_simp <;> with_reducible rfl)
  simp only [Act.put, List.setIfInBounds_toArray, List.set_cons_zero, List.set_cons_succ]
  refine mixS 9 (by kernel_rfl) (by kernel_rfl) (by rfl) (by rfl) (fun K hK => ?_)
  go_wp2_with (go_at_call 31; refine (refSeal_w _ _ _ B _ _ (Sl.drew ht) hB (by omega)).mono ?_; rintro e w1 ⟨v, rfl, hown, hx⟩; obtain ⟨A2, c2, rfl, hsl⟩ := own_shape hown)
  refine hK.out _ _ hx ?_
  try simp only [Act.put, List.setIfInBounds_toArray, List.set_cons_zero, List.set_cons_succ]
  apply mixF 10 (by kernel_rfl) (by rfl) (by rfl)
  · (intro w' hx; have hs := run_str (Sl.below hsl hx); go_simp <;> with_reducible rfl)
  simp only [Act.put, List.setIfInBounds_toArray, List.set_cons_zero, List.set_cons_succ]
  apply mixF 13 (by kernel_rfl) (by rfl) (by rfl)
  · (intro w' hx; go_simp <;> with_reducible rfl)
  simp only [Act.put, List.setIfInBounds_toArray, List.set_cons_zero, List.set_cons_succ]
  apply mixF 14 (by kernel_rfl) (by rfl) (by rfl)
  · (intro w' hx; go_simp <;> with_reducible rfl)
  simp only [Act.put, List.setIfInBounds_toArray, List.set_cons_zero, List.set_cons_succ]
  apply mixF 15 (by kernel_rfl) (by rfl) (by rfl)
  · (intro w' hx; go_simp <;> with_reducible rfl)
  simp only [Act.put, List.setIfInBounds_toArray, List.set_cons_zero, List.set_cons_succ]
  refine mixEnd (by kernel_rfl) ?_
  clear hK K
  go_wp2
  go_ret
  exact ⟨by rw [← Hq.out]; rfl, ext_trans hd hx⟩

theorem refSealed_w (A : Option Addr) (n c B : Nat) (l : List UInt8) (w : World) (h : By w B A n c l) (hB : B ≤ w.heap.size) (hn : n ≤ blim) :
    Calls Try.prog 33 #[.slice A n c] w fun e w' => e = .returned (.bool (sSealed l)) ∧ Ext w w' := by
  rcases Nat.lt_or_ge n 2 with h2 | h2
  · exact refSealed_short A n c B l w h h2
  · exact refSealed_long A n c B l w h hB h2 hn

theorem two_b (n : Int) (w : World) (h0 : 0 ≤ n) (h1 : n < 65536) :
    Calls Try.prog 26 #[.int .i64 n] w fun e w' => ∃ g, e = .returned (.slice (some ⟨g, 0, none⟩) 2 2) ∧ g < w'.heap.size ∧
      w'.cell? ⟨g, 0, none⟩ = some (.int .u8 (n / 256)) ∧ w'.cell? ⟨g, 1, none⟩ = some (.int .u8 (n % 256)) ∧ Ext w w' := by
  refine (two_w n w h0 h1).mono ?_
  rintro e w' ⟨rfl, rfl⟩
  rw [← two_cells n h0 h1]
  refine ⟨_, rfl, by simp, ?_, ?_, ext_alloc _ _⟩
  · simp
  · simp

end Go.Proofs.Ytnganglmpcbcbaa
