/- Walks: the document's SameBlocks, SameDisk, RightDisk. -/
import Derived.Test.YtnganglmpcbcbaaDsk
import Derived.Test.YtnganglmpcbcbaaMix
namespace Go.Proofs.Ytnganglmpcbcbaa
open Go Go.RowKit

theorem take_eq_succ' {α : Type} (d : α) (l l' : List α) (k : Nat) (h : l.take k = l'.take k) (hk : k < l.length) (hk' : k < l'.length) (he : l.getD k d = l'.getD k d) : l.take (k + 1) = l'.take (k + 1) := by
  rw [List.take_succ_eq_append_getElem hk, List.take_succ_eq_append_getElem hk', h]
  simp only [List.getD_eq_getElem?_getD, List.getElem?_eq_getElem hk, List.getElem?_eq_getElem hk', Option.getD_some] at he
  rw [he]

set_option maxRecDepth 100000 in
set_option maxHeartbeats 2000000 in
theorem sameBlocks_w {A A' : Option Addr} {n c n' c' B B' : Nat} {l l' : List (List UInt8)} (w : World) (h : Blks w B A n c l) (h' : Blks w B' A' n' c' l') (hB : B ≤ w.heap.size) (hB' : B' ≤ w.heap.size) :
    Calls Try.prog 61 #[.slice A n c, .slice A' n' c'] w fun e w' => e = .returned (.bool (l == l')) ∧ Ext w w' := by
  have hl := h.len
  have hl' := h'.len
  by_cases hn : n = n'
  · subst hn
    have hm := h.max
    have hc := h.cap
    have hm' := h'.max
    have hc' := h'.cap
    unfold maxLen at hm hm'
    have Hl := Lib.hid hl
    have Hl' := Lib.hid hl'
    clear hl hl'
    go_enter Try.func61, Try.ntmps61
    go_wp2
    go_loopw [13] (fun i wr => ∃ k : Nat, k ≤ n ∧ i = .int .i64 k ∧ Hid (l.take k = l'.take k) ∧ Ext w wr) (fun i _ => n - (intOf i).toNat)
    case atStart => exact ⟨0, Nat.zero_le _, rfl, rfl, Below.refl _ _⟩
    case round =>
      obtain ⟨k, hk, rfl, ht, hd⟩ := hrel
      by_cases hlt : k < n
      · obtain ⟨b, o, A1, n1, c1, rfl, hb, hc1, hy1⟩ := h.at_ hlt
        obtain ⟨b', o', A2, n2, c2, rfl, hb', hc2, hy2⟩ := h'.at_ hlt
        have i0 : (0 : Int) ≤ (k : Int) := by omega
        have i1 : (k : Int) < (n : Int) := by omega
        obtain ⟨x, hx⟩ : ∃ x, l.getD k [] = x := ⟨_, rfl⟩
        obtain ⟨y, hy⟩ : ∃ y, l'.getD k [] = y := ⟨_, rfl⟩
        rw [hx] at hy1
        rw [hy] at hy2
        have Hx := Lib.hid hx
        have Hy := Lib.hid hy
        clear hx hy
        go_wp2_with fail
        refine wp_region_ext 11 [0, 1, 2, 3, 4, 5, 6, 7, 8, 9, 10] false rfl (by kernel_rfl) (by kernel_rfl) ?_
        have hd := hd.drew
        apply mixF 0 (by kernel_rfl) (by rfl) (by rfl)
        · (intro w' hx; go_simp <;> with_reducible rfl)
        simp only [Act.put, List.setIfInBounds_toArray, List.set_cons_zero, List.set_cons_succ]
        apply mixF 1 (by kernel_rfl) (by rfl) (by rfl)
        · (intro w' hx; go_simp <;> with_reducible rfl)
        simp only [Act.put, List.setIfInBounds_toArray, List.set_cons_zero, List.set_cons_succ]
        apply mixF 2 (by kernel_rfl) (by rfl) (by rfl)
        · (intro w' hx; go_simp <;> with_reducible rfl)
        simp only [Act.put, List.setIfInBounds_toArray, List.set_cons_zero, List.set_cons_succ]
        apply mixF 3 (by kernel_rfl) (by rfl) (by rfl)
        · (intro w' hx; have q := ((ext_trans hd hx).cell (p := ⟨b, o + k, none⟩) (show b < w.heap.size by omega)).trans hc1; go_simp <;> with_reducible rfl)
        simp only [Act.put, List.setIfInBounds_toArray, List.set_cons_zero, List.set_cons_succ]
        apply mixF 4 (by kernel_rfl) (by rfl) (by rfl)
        · (intro w' hx; have q := run_str (Sl.below hy1 ((ext_trans hd hx).mono hB)); go_simp <;> with_reducible rfl)
        simp only [Act.put, List.setIfInBounds_toArray, List.set_cons_zero, List.set_cons_succ]
        apply mixF 5 (by kernel_rfl) (by rfl) (by rfl)
        · (intro w' hx; go_simp <;> with_reducible rfl)
        simp only [Act.put, List.setIfInBounds_toArray, List.set_cons_zero, List.set_cons_succ]
        apply mixF 6 (by kernel_rfl) (by rfl) (by rfl)
        · (intro w' hx; go_simp <;> with_reducible rfl)
        simp only [Act.put, List.setIfInBounds_toArray, List.set_cons_zero, List.set_cons_succ]
        apply mixF 7 (by kernel_rfl) (by rfl) (by rfl)
        · (intro w' hx; go_simp <;> with_reducible rfl)
        simp only [Act.put, List.setIfInBounds_toArray, List.set_cons_zero, List.set_cons_succ]
        apply mixF 8 (by kernel_rfl) (by rfl) (by rfl)
        · (intro w' hx; have q := ((ext_trans hd hx).cell (p := ⟨b', o' + k, none⟩) (show b' < w.heap.size by omega)).trans hc2; go_simp <;> with_reducible rfl)
        simp only [Act.put, List.setIfInBounds_toArray, List.set_cons_zero, List.set_cons_succ]
        apply mixF 9 (by kernel_rfl) (by rfl) (by rfl)
        · (intro w' hx; have q := run_str (Sl.below hy2 ((ext_trans hd hx).mono hB')); go_simp <;> with_reducible rfl)
        simp only [Act.put, List.setIfInBounds_toArray, List.set_cons_zero, List.set_cons_succ]
        apply mixF 10 (by kernel_rfl) (by rfl) (by rfl)
        · (intro w' hx; go_simp <;> with_reducible rfl)
        simp only [Act.put, List.setIfInBounds_toArray, List.set_cons_zero, List.set_cons_succ]
        refine mixEnd (by kernel_rfl) ?_
        by_cases hxy : x = y
        · have q1 : (x == y) = true := by simpa using hxy
          have hs := Lib.hid (take_eq_succ' [] l l' k ht.out (by have := Hl.out; omega) (by have := Hl'.out; omega) (by rw [Hx.out, Hy.out, hxy]))
          have q2 : (!(x == y)) = false := by rw [q1]; rfl
          rw [q2]
          go_wp2
          go_roundw
          case rel => exact ⟨k + 1, by omega, by go_num, hs, hd⟩
          case measure => simp [intOf]; omega
        · have q1 : (x == y) = false := by simpa using hxy
          have hlne : (l == l') = false := by
            rw [beq_eq_false_iff_ne]
            rintro rfl
            exact hxy (Hx.out.symm.trans Hy.out)
          have Hne := Lib.hid hlne
          have q2 : (!(x == y)) = true := by rw [q1]; rfl
          rw [q2]
          clear hlne hxy
          go_wp2
          go_ret
          exact ⟨by rw [Hne.out]; rfl, hd⟩
      · have hlle : (l == l') = true := by
          have := ht.out
          rw [List.take_of_length_le (by have := Hl.out; omega), List.take_of_length_le (by have := Hl'.out; omega)] at this
          rw [this]
          simp
        have Hlle := Lib.hid hlle
        clear hlle
        go_wp2
        go_ret
        exact ⟨by rw [Hlle.out]; rfl, hd⟩
  · have hne : ((n : Int) != (n' : Int)) = true := by rw [bne_iff_ne]; omega
    have hlne : (l == l') = false := by
      rw [beq_eq_false_iff_ne]
      rintro rfl
      omega
    have Hne := Lib.hid hlne
    clear hlne hl hl' hn
    go_enter Try.func61, Try.ntmps61
    go_wp2
    go_ret
    exact ⟨by rw [Hne.out]; rfl, Below.refl _ _⟩

end Go.Proofs.Ytnganglmpcbcbaa
