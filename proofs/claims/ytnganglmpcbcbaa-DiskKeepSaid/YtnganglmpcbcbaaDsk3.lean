/- Walks: the document's RightDisk. -/
import Derived.Test.YtnganglmpcbcbaaDsk2
namespace Go.Proofs.Ytnganglmpcbcbaa
open Go Go.RowKit

def lRight (p : Int × List UInt8) : Bool := decide (0 ≤ p.1) && decide (p.1 < 12) && decide (p.2.length = 16)
def dRight (d : Dsk) : Bool := decide (d.blocks.length = 12) && decide (d.late.length ≤ 40) && d.blocks.all (fun b => decide (b.length = 16)) && d.late.all lRight
theorem all_succ {α : Type} (dd : α) (P : α → Bool) (l : List α) (k : Nat) (h : (l.take k).all P = true) (hk : k < l.length) (hp : P (l.getD k dd) = true) : (l.take (k + 1)).all P = true := by
  rw [List.take_succ_eq_append_getElem hk, List.all_append, h]
  rw [List.getD_eq_getElem?_getD, List.getElem?_eq_getElem hk] at hp
  simpa using hp
theorem all_not {α : Type} (dd : α) (P : α → Bool) (l : List α) (k : Nat) (hk : k < l.length) (hp : P (l.getD k dd) = false) : l.all P = false := by
  rw [List.all_eq_false]
  refine ⟨l[k], List.getElem_mem hk, ?_⟩
  rw [List.getD_eq_getElem?_getD, List.getElem?_eq_getElem hk] at hp
  simpa using hp

set_option maxRecDepth 100000 in
set_option maxHeartbeats 2000000 in
theorem rightDisk_w {A E : Option Addr} {n c m e B : Nat} {d : Dsk} (w : World) (h : DskAt w B A n c E m e d) (hB : B ≤ w.heap.size) :
    Calls Try.prog 48 #[.agg #[.slice A n c, .slice E m e]] w fun e w' => e = .returned (.bool (dRight d)) ∧ Ext w w' := by
  have hl := h.blocks.len
  have hl' := h.late.len
  have hm := h.late.max
  have hc := h.late.cap
  have hm' := h.blocks.max
  have hc' := h.blocks.cap
  unfold maxLen at hm hm'
  have Hl := Lib.hid hl
  have Hl' := Lib.hid hl'
  clear hl hl'
  have hF : ∀ v, dRight d = v → Hid (dRight d = v) := fun _ h => h
  go_enter Try.func48, Try.ntmps48
  by_cases h12 : n = 12
  · subst h12
    by_cases h40 : 40 < m
    · have q1 : decide ((40 : Int) < (m : Int)) = true := by simp; omega
      have HF := hF false (by unfold dRight; rw [show decide (d.late.length ≤ 40) = false from by have := Hl'.out; simp; omega]; simp)
      go_wp2
      go_ret
      exact ⟨by rw [HF.out]; rfl, ext_alloc _ _⟩
    · have q1 : decide ((40 : Int) < (m : Int)) = false := by simp; omega
      go_wp2_with fail
      obtain ⟨W, hW⟩ : ∃ W, W = w.alloc (.cells #[.slice A 12 c, .slice E m e] 46) := ⟨_, rfl⟩
      rw [← hW]
      have bp : Box W w.heap.size 46 #[.slice A 12 c, .slice E m e] := by rw [hW]; exact Box.new w _ _ rfl
      have hwW : Ext w W := by rw [hW]; exact ext_alloc _ _
      clear hW
      have h := h.below (hwW.mono hB)
      have hzW := hwW.size
      go_loopw [20] (fun i wr => ∃ k : Nat, k ≤ 12 ∧ i = .int .i64 k ∧ Hid ((d.blocks.take k).all (fun b => decide (b.length = 16)) = true) ∧ Ext W wr) (fun i _ => 12 - (intOf i).toNat)
      case atStart => exact ⟨0, Nat.zero_le _, rfl, (show _ = _ from by simp), Below.refl _ _⟩
      case round =>
        obtain ⟨k, hk, rfl, ht, hd⟩ := hrel
        have bpr := bp.ext hd
        by_cases hlt : k < 12
        · obtain ⟨b, o, A1, n1, c1, rfl, hb, hc1, hy1⟩ := h.blocks.at_ hlt
          have hcr := (hd.cell (p := ⟨b, o + k, none⟩) (show b < W.heap.size by omega)).trans hc1
          have hy2 := hy1.len
          have Hy := Lib.hid hy2
          have i0 : (0 : Int) ≤ (k : Int) := by omega
          have i1 : (k : Int) < 12 := by omega
          clear hy2
          by_cases h16 : n1 = 16
          · subst h16
            have hs := Lib.hid (all_succ [] (fun b => decide (b.length = 16)) d.blocks k ht.out (by have := Hl.out; omega) (by rw [Hy.out]; rfl))
            go_wp2_with fail
            go_roundw
            case rel => exact ⟨k + 1, by omega, by go_num, hs, hd⟩
            case measure => simp [intOf]; omega
          · have q2 : ((n1 : Int) != 16) = true := by rw [bne_iff_ne]; omega
            have HF := hF false (by
              unfold dRight
              rw [all_not [] (fun b => decide (b.length = 16)) d.blocks k (by have := Hl.out; omega) (by rw [Hy.out]; simpa using h16)]
              simp)
            clear h16
            go_wp2
            go_ret
            exact ⟨by rw [HF.out]; rfl, ext_trans hwW hd⟩
        · have hk12 : k = 12 := by omega
          subst hk12
          have hall : d.blocks.all (fun b => decide (b.length = 16)) = true := by
            have := ht.out
            rwa [List.take_of_length_le (by have := Hl.out; omega)] at this
          have Hall := Lib.hid hall
          clear hall ht
          obtain ⟨m0, m1⟩ := bpr.cells2
          go_wp2_with fail
          have h0 := hd
          clear m0 m1 bpr hd
          go_loopw [31] (fun i wr => ∃ k : Nat, k ≤ m ∧ i = .int .i64 k ∧ Hid ((d.late.take k).all lRight = true) ∧ Ext W wr) (fun i _ => m - (intOf i).toNat)
          case atStart => exact ⟨0, Nat.zero_le _, rfl, (show _ = _ from by simp), h0⟩
          case round =>
            obtain ⟨k, hk, rfl, ht, hd⟩ := hrel
            have bpr := bp.ext hd
            have hltp := bpr.lt
            obtain ⟨m0, m1⟩ := bpr.cells2
            by_cases hlt : k < m
            · obtain ⟨b, o, x, A1, n1, c1, rfl, hb, ck, cd, Hx, hy1⟩ := h.late.at_ hlt
              rw [← Nat.add_assoc] at cd
              have ckr := (hd.cell (p := ⟨b, o + k * 2, none⟩) (show b < W.heap.size by omega)).trans ck
              have cdr := (hd.cell (p := ⟨b, o + k * 2 + 1, none⟩) (show b < W.heap.size by omega)).trans cd
              have hy2 := hy1.len
              have Hy := Lib.hid hy2
              have i0 : (0 : Int) ≤ (k : Int) := by omega
              have i1 : (k : Int) < (m : Int) := by omega
              clear hy2
              have hB0 : lRight (d.late.getD k (0, [])) = (decide (0 ≤ x) && decide (x < 12) && decide (n1 = 16)) := by unfold lRight; rw [Hy.out, ← Hx.out]
              have HB0 := Lib.hid hB0
              have hN : (decide (0 ≤ x) && decide (x < 12) && decide (n1 = 16)) = false → Hid (dRight d = false) := fun e0 => hF false (by
                unfold dRight
                rw [all_not (0, []) lRight d.late k (by have := Hl'.out; omega) (HB0.out.trans e0)]
                simp)
              clear hB0
              by_cases x0 : x < 0
              · have q2 : decide (x < 0) = true := by simpa using x0
                have HF := hN (by rw [show decide (0 ≤ x) = false from by simp; omega]; rfl)
                clear hN x0
                go_wp2
                go_ret
                exact ⟨by rw [HF.out]; rfl, ext_trans hwW (ext_trans hd (ext_alloc _ _))⟩
              · have q2 : decide (x < 0) = false := by simpa using x0
                by_cases x12 : 12 ≤ x
                · have q3 : decide (12 ≤ x) = true := by simpa using x12
                  have HF := hN (by rw [show decide (x < 12) = false from by simp; omega]; simp)
                  clear hN x0 x12
                  go_wp2
                  go_ret
                  exact ⟨by rw [HF.out]; rfl, ext_trans hwW (ext_trans hd (ext_alloc _ _))⟩
                · have q3 : decide (12 ≤ x) = false := by simpa using x12
                  by_cases h16 : n1 = 16
                  · subst h16
                    have hs := Lib.hid (all_succ (0, []) lRight d.late k ht.out (by have := Hl'.out; omega) (by rw [HB0.out]; simp; omega))
                    clear hN x0 x12
                    go_wp2_with fail
                    go_roundw
                    case rel => exact ⟨k + 1, by omega, by go_num, hs, ext_trans hd (ext_alloc _ _)⟩
                    case measure => simp [intOf]; omega
                  · have q4 : ((n1 : Int) != 16) = true := by rw [bne_iff_ne]; omega
                    have HF := hN (by rw [show decide (n1 = 16) = false from by simpa using h16]; simp)
                    clear hN x0 x12 h16
                    go_wp2
                    go_ret
                    exact ⟨by rw [HF.out]; rfl, ext_trans hwW (ext_trans hd (ext_alloc _ _))⟩
            · have HF := hF true (by
                unfold dRight
                have := ht.out
                rw [List.take_of_length_le (by have := Hl'.out; omega)] at this
                rw [Hall.out, this, show decide (d.blocks.length = 12) = true from by have := Hl.out; simp; omega, show decide (d.late.length ≤ 40) = true from by have := Hl'.out; simp; omega]
                rfl)
              go_wp2
              go_ret
              exact ⟨by rw [HF.out]; rfl, ext_trans hwW hd⟩
  · have q1 : ((n : Int) != 12) = true := by rw [bne_iff_ne]; omega
    have HF := hF false (by unfold dRight; rw [show decide (d.blocks.length = 12) = false from by have := Hl.out; simp; omega]; simp)
    clear h12
    go_wp2
    go_ret
    exact ⟨by rw [HF.out]; rfl, ext_alloc _ _⟩

end Go.Proofs.Ytnganglmpcbcbaa
