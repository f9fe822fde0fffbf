/- Walks: the document's SameDisk. -/
import Derived.Test.YtnganglmpcbcbaaDsk1
namespace Go.Proofs.Ytnganglmpcbcbaa
open Go Go.RowKit

def dSame (d e : Dsk) : Bool := (d.blocks == e.blocks) && decide (d.late = e.late)
theorem dSame_iff (d e : Dsk) : dSame d e = true ↔ d = e := by
  cases d; cases e
  simp [dSame]
theorem Box.cells2 {w : World} {g : Nat} {t : TypeId} {a b : Value} (h : Box w g t #[a, b]) : w.cell? ⟨g, 0, none⟩ = some a ∧ w.cell? ⟨g, 1, none⟩ = some b := ⟨h.cell 0 rfl, h.cell 1 rfl⟩

/-- A disk's two rows. -/
structure DskAt (w : World) (B : Nat) (A : Option Addr) (n c : Nat) (A' : Option Addr) (n' c' : Nat) (d : Dsk) : Prop where
  blocks : Blks w B A n c d.blocks
  late : Lats w B A' n' c' d.late
theorem DskAt.below {w w' : World} {B : Nat} {A : Option Addr} {n c : Nat} {A' : Option Addr} {n' c' : Nat} {d : Dsk} (h : DskAt w B A n c A' n' c' d) (hb : Below B w w') : DskAt w' B A n c A' n' c' d := ⟨h.1.below hb, h.2.below hb⟩

set_option maxRecDepth 100000 in
set_option maxHeartbeats 2000000 in
theorem sameDisk_w {A A' E E' : Option Addr} {n c n' c' m e m' e' B B' : Nat} {d d' : Dsk} (w : World) (h : DskAt w B A n c E m e d) (h' : DskAt w B' A' n' c' E' m' e' d') (hB : B ≤ w.heap.size) (hB' : B' ≤ w.heap.size) :
    Calls Try.prog 45 #[.agg #[.slice A n c, .slice E m e], .agg #[.slice A' n' c', .slice E' m' e']] w fun e w' => e = .returned (.bool (dSame d d')) ∧ Ext w w' := by
  have hl := h.late.len
  have hl' := h'.late.len
  have hm := h.late.max
  have hc := h.late.cap
  have hm' := h'.late.max
  have hc' := h'.late.cap
  unfold maxLen at hm hm'
  go_enter Try.func45, Try.ntmps45
  go_wp2_with fail
  obtain ⟨W, hW⟩ : ∃ W, W = (w.alloc (.cells #[.slice A n c, .slice E m e] 46)).alloc (.cells #[.slice A' n' c', .slice E' m' e'] 46) := ⟨_, rfl⟩
  rw [← hW]
  have bp : Box W w.heap.size 46 #[.slice A n c, .slice E m e] := by rw [hW]; exact (Box.new w _ _ rfl).alloc _
  have bq : Box W (w.heap.size + 1) 46 #[.slice A' n' c', .slice E' m' e'] := by rw [hW]; exact Box.new _ _ _ (size_alloc _ _).symm
  have hwW : Ext w W := by rw [hW]; exact ext_trans (ext_alloc _ _) (ext_alloc _ _)
  clear hW
  have h := h.below (hwW.mono hB)
  have h' := h'.below (hwW.mono hB')
  have hzW := hwW.size
  refine (sameBlocks_w _ h.blocks h'.blocks (Nat.le_trans hB hzW) (Nat.le_trans hB' hzW)).mono ?_
  rintro e9 w1 ⟨rfl, he1⟩
  obtain ⟨z, hz⟩ : ∃ z, (d.blocks == d'.blocks) = z := ⟨_, rfl⟩
  rw [hz]
  have Hz := Lib.hid hz
  have Hl := Lib.hid hl
  have Hl' := Lib.hid hl'
  clear hz hl hl'
  have bp1 := bp.ext he1
  have bq1 := bq.ext he1
  obtain ⟨m0, m1⟩ := bp1.cells2
  obtain ⟨n0, n1⟩ := bq1.cells2
  cases z with
  | false =>
    have hF : dSame d d' = false := by unfold dSame; rw [Hz.out]; rfl
    have HF := Lib.hid hF
    clear hF
    go_wp2
    go_ret
    exact ⟨by rw [HF.out]; rfl, ext_trans hwW he1⟩
  | true =>
    by_cases hmm : m = m'
    · subst hmm
      go_wp2_with fail
      go_loopw [24] (fun i wr => ∃ k : Nat, k ≤ m ∧ i = .int .i64 k ∧ Hid (d.late.take k = d'.late.take k) ∧ Ext W wr) (fun i _ => m - (intOf i).toNat)
      case atStart => exact ⟨0, Nat.zero_le _, rfl, rfl, he1⟩
      case round =>
        obtain ⟨k, hk, rfl, ht, hd⟩ := hrel
        have bp := bp.ext hd
        have bq := bq.ext hd
        by_cases hlt : k < m
        · obtain ⟨b, o, x, A1, n1, c1, rfl, hb, ck, cd, Hx, hy1⟩ := h.late.at_ hlt
          obtain ⟨b', o', x', A2, n2, c2, rfl, hb', ck', cd', Hx', hy2⟩ := h'.late.at_ hlt
          rw [← Nat.add_assoc] at cd cd'
          have i0 : (0 : Int) ≤ (k : Int) := by omega
          have i1 : (k : Int) < (m : Int) := by omega
          obtain ⟨y, hy⟩ : ∃ y, (d.late.getD k (0, [])).2 = y := ⟨_, rfl⟩
          obtain ⟨y', hy'⟩ : ∃ y, (d'.late.getD k (0, [])).2 = y := ⟨_, rfl⟩
          rw [hy] at hy1
          rw [hy'] at hy2
          have Hy := Lib.hid hy
          have Hy' := Lib.hid hy'
          clear hy hy' m0 m1 n0 n1
          by_cases hxx : x = x'
          · subst hxx
            go_wp2_with fail
            refine wp_region_ext 30 [0, 1, 2, 3, 4, 5, 6, 7, 8, 9, 10, 11, 12, 13, 14, 15, 16, 17, 18, 19, 20, 21, 22, 23, 24, 25, 26, 27, 28, 29] false rfl (by kernel_rfl) (by kernel_rfl) ?_
            have hr : Below wr.heap.size wr wr.drew := (Below.refl _ _).drew
            have hd := hd.drew
            apply mixF 0 (by kernel_rfl) (by rfl) (by rfl)
            · (intro w' hx; go_simp <;> with_reducible rfl)
            simp only [Act.put, List.setIfInBounds_toArray, List.set_cons_zero, List.set_cons_succ]
            apply mixF 1 (by kernel_rfl) (by rfl) (by rfl)
            · (intro w' hx; have q := ((bp.ext (ext_trans hr hx)).cells2).2; go_simp <;> with_reducible rfl)
            simp only [Act.put, List.setIfInBounds_toArray, List.set_cons_zero, List.set_cons_succ]
            apply mixF 2 (by kernel_rfl) (by rfl) (by rfl)
            · (intro w' hx; go_simp <;> with_reducible rfl)
            simp only [Act.put, List.setIfInBounds_toArray, List.set_cons_zero, List.set_cons_succ]
            apply mixF 3 (by kernel_rfl) (by rfl) (by rfl)
            · (intro w' hx; go_simp <;> with_reducible rfl)
            simp only [Act.put, List.setIfInBounds_toArray, List.set_cons_zero, List.set_cons_succ]
            apply mixF 4 (by kernel_rfl) (by rfl) (by rfl)
            · (intro w' hx; go_simp <;> with_reducible rfl)
            simp only [Act.put, List.setIfInBounds_toArray, List.set_cons_zero, List.set_cons_succ]
            apply mixF 5 (by kernel_rfl) (by rfl) (by rfl)
            · (intro w' hx; have q := ((ext_trans hd hx).cell (p := ⟨b, o + k * 2, none⟩) (show b < W.heap.size by omega)).trans ck; go_simp <;> with_reducible rfl)
            simp only [Act.put, List.setIfInBounds_toArray, List.set_cons_zero, List.set_cons_succ]
            apply mixF 6 (by kernel_rfl) (by rfl) (by rfl)
            · (intro w' hx; go_simp <;> with_reducible rfl)
            simp only [Act.put, List.setIfInBounds_toArray, List.set_cons_zero, List.set_cons_succ]
            apply mixF 7 (by kernel_rfl) (by rfl) (by rfl)
            · (intro w' hx; have q := ((bq.ext (ext_trans hr hx)).cells2).2; go_simp <;> with_reducible rfl)
            simp only [Act.put, List.setIfInBounds_toArray, List.set_cons_zero, List.set_cons_succ]
            apply mixF 8 (by kernel_rfl) (by rfl) (by rfl)
            · (intro w' hx; go_simp <;> with_reducible rfl)
            simp only [Act.put, List.setIfInBounds_toArray, List.set_cons_zero, List.set_cons_succ]
            apply mixF 9 (by kernel_rfl) (by rfl) (by rfl)
            · (intro w' hx; go_simp <;> with_reducible rfl)
            simp only [Act.put, List.setIfInBounds_toArray, List.set_cons_zero, List.set_cons_succ]
            apply mixF 10 (by kernel_rfl) (by rfl) (by rfl)
            · (intro w' hx; go_simp <;> with_reducible rfl)
            simp only [Act.put, List.setIfInBounds_toArray, List.set_cons_zero, List.set_cons_succ]
            apply mixF 11 (by kernel_rfl) (by rfl) (by rfl)
            · (intro w' hx; have q := ((ext_trans hd hx).cell (p := ⟨b', o' + k * 2, none⟩) (show b' < W.heap.size by omega)).trans ck'; go_simp <;> with_reducible rfl)
            simp only [Act.put, List.setIfInBounds_toArray, List.set_cons_zero, List.set_cons_succ]
            apply mixF 12 (by kernel_rfl) (by rfl) (by rfl)
            · (intro w' hx; go_simp <;> with_reducible rfl)
            simp only [Act.put, List.setIfInBounds_toArray, List.set_cons_zero, List.set_cons_succ]
            apply mixF 13 (by kernel_rfl) (by rfl) (by rfl)
            · (intro w' hx; go_simp <;> with_reducible rfl)
            simp only [Act.put, List.setIfInBounds_toArray, List.set_cons_zero, List.set_cons_succ]
            apply mixF 14 (by kernel_rfl) (by rfl) (by rfl)
            · (intro w' hx; go_simp <;> with_reducible rfl)
            simp only [Act.put, List.setIfInBounds_toArray, List.set_cons_zero, List.set_cons_succ]
            apply mixF 15 (by kernel_rfl) (by rfl) (by rfl)
            · (intro w' hx; have q := ((bp.ext (ext_trans hr hx)).cells2).2; go_simp <;> with_reducible rfl)
            simp only [Act.put, List.setIfInBounds_toArray, List.set_cons_zero, List.set_cons_succ]
            apply mixF 16 (by kernel_rfl) (by rfl) (by rfl)
            · (intro w' hx; go_simp <;> with_reducible rfl)
            simp only [Act.put, List.setIfInBounds_toArray, List.set_cons_zero, List.set_cons_succ]
            apply mixF 17 (by kernel_rfl) (by rfl) (by rfl)
            · (intro w' hx; go_simp <;> with_reducible rfl)
            simp only [Act.put, List.setIfInBounds_toArray, List.set_cons_zero, List.set_cons_succ]
            apply mixF 18 (by kernel_rfl) (by rfl) (by rfl)
            · (intro w' hx; go_simp <;> with_reducible rfl)
            simp only [Act.put, List.setIfInBounds_toArray, List.set_cons_zero, List.set_cons_succ]
            apply mixF 19 (by kernel_rfl) (by rfl) (by rfl)
            · (intro w' hx; have q := ((ext_trans hd hx).cell (p := ⟨b, o + k * 2 + 1, none⟩) (show b < W.heap.size by omega)).trans cd; go_simp <;> with_reducible rfl)
            simp only [Act.put, List.setIfInBounds_toArray, List.set_cons_zero, List.set_cons_succ]
            apply mixF 20 (by kernel_rfl) (by rfl) (by rfl)
            · (intro w' hx; have q := run_str (Sl.below hy1 ((ext_trans hd hx).mono (Nat.le_trans hB hzW))); go_simp <;> with_reducible rfl)
            simp only [Act.put, List.setIfInBounds_toArray, List.set_cons_zero, List.set_cons_succ]
            apply mixF 21 (by kernel_rfl) (by rfl) (by rfl)
            · (intro w' hx; go_simp <;> with_reducible rfl)
            simp only [Act.put, List.setIfInBounds_toArray, List.set_cons_zero, List.set_cons_succ]
            apply mixF 22 (by kernel_rfl) (by rfl) (by rfl)
            · (intro w' hx; have q := ((bq.ext (ext_trans hr hx)).cells2).2; go_simp <;> with_reducible rfl)
            simp only [Act.put, List.setIfInBounds_toArray, List.set_cons_zero, List.set_cons_succ]
            apply mixF 23 (by kernel_rfl) (by rfl) (by rfl)
            · (intro w' hx; go_simp <;> with_reducible rfl)
            simp only [Act.put, List.setIfInBounds_toArray, List.set_cons_zero, List.set_cons_succ]
            apply mixF 24 (by kernel_rfl) (by rfl) (by rfl)
            · (intro w' hx; go_simp <;> with_reducible rfl)
            simp only [Act.put, List.setIfInBounds_toArray, List.set_cons_zero, List.set_cons_succ]
            apply mixF 25 (by kernel_rfl) (by rfl) (by rfl)
            · (intro w' hx; go_simp <;> with_reducible rfl)
            simp only [Act.put, List.setIfInBounds_toArray, List.set_cons_zero, List.set_cons_succ]
            apply mixF 26 (by kernel_rfl) (by rfl) (by rfl)
            · (intro w' hx; have q := ((ext_trans hd hx).cell (p := ⟨b', o' + k * 2 + 1, none⟩) (show b' < W.heap.size by omega)).trans cd'; go_simp <;> with_reducible rfl)
            simp only [Act.put, List.setIfInBounds_toArray, List.set_cons_zero, List.set_cons_succ]
            apply mixF 27 (by kernel_rfl) (by rfl) (by rfl)
            · (intro w' hx; have q := run_str (Sl.below hy2 ((ext_trans hd hx).mono (Nat.le_trans hB' hzW))); go_simp <;> with_reducible rfl)
            simp only [Act.put, List.setIfInBounds_toArray, List.set_cons_zero, List.set_cons_succ]
            apply mixF 28 (by kernel_rfl) (by rfl) (by rfl)
            · (intro w' hx; go_simp <;> with_reducible rfl)
            simp only [Act.put, List.setIfInBounds_toArray, List.set_cons_zero, List.set_cons_succ]
            apply mixF 29 (by kernel_rfl) (by rfl) (by rfl)
            · (intro w' hx; go_simp <;> with_reducible rfl)
            simp only [Act.put, List.setIfInBounds_toArray, List.set_cons_zero, List.set_cons_succ]
            refine mixEnd (by kernel_rfl) ?_
            by_cases hyy : y = y'
            · have q1 : (y == y') = true := by simpa using hyy
              have q2 : (!(y == y')) = false := by rw [q1]; rfl
              rw [q2]
              have hs := Lib.hid (take_eq_succ' (0, []) d.late d'.late k ht.out (by have := Hl.out; omega) (by have := Hl'.out; omega) (Prod.ext (Hx.out.symm.trans Hx'.out) (by rw [Hy.out, Hy'.out, hyy])))
              clear hyy q1 q2
              go_wp2
              go_roundw
              case rel => exact ⟨k + 1, by omega, by go_num, hs, hd⟩
              case measure => simp [intOf]; omega
            · have q1 : (y == y') = false := by simpa using hyy
              have q2 : (!(y == y')) = true := by rw [q1]; rfl
              rw [q2]
              have hF : dSame d d' = false := by
                unfold dSame
                rw [Bool.and_eq_false_iff]
                refine .inr (by simp only [decide_eq_false_iff_not]; intro e0; apply hyy; rw [← Hy.out, ← Hy'.out, e0])
              have HF := Lib.hid hF
              clear hF hyy q1 q2
              go_wp2
              go_ret
              exact ⟨by rw [HF.out]; rfl, ext_trans hwW hd⟩
          · have q0 : (x != x') = true := by simpa using hxx
            have hF : dSame d d' = false := by
              unfold dSame
              rw [Bool.and_eq_false_iff]
              refine .inr (by simp only [decide_eq_false_iff_not]; intro e0; apply hxx; rw [Hx.out, Hx'.out, e0])
            have HF := Lib.hid hF
            clear hF hxx
            go_wp2_with fail
            refine wp_region_ext 30 [0, 1, 2, 3, 4, 5, 6, 7, 8, 9, 10, 11, 12, 13, 14, 15, 16, 17, 18, 19, 20, 21, 22, 23, 24, 25, 26, 27, 28, 29] false rfl (by kernel_rfl) (by kernel_rfl) ?_
            have hr : Below wr.heap.size wr wr.drew := (Below.refl _ _).drew
            have hd := hd.drew
            apply mixF 0 (by kernel_rfl) (by rfl) (by rfl)
            · (intro w' hx; go_simp <;> with_reducible rfl)
            simp only [Act.put, List.setIfInBounds_toArray, List.set_cons_zero, List.set_cons_succ]
            apply mixF 1 (by kernel_rfl) (by rfl) (by rfl)
            · (intro w' hx; have q := ((bp.ext (ext_trans hr hx)).cells2).2; go_simp <;> with_reducible rfl)
            simp only [Act.put, List.setIfInBounds_toArray, List.set_cons_zero, List.set_cons_succ]
            apply mixF 2 (by kernel_rfl) (by rfl) (by rfl)
            · (intro w' hx; go_simp <;> with_reducible rfl)
            simp only [Act.put, List.setIfInBounds_toArray, List.set_cons_zero, List.set_cons_succ]
            apply mixF 3 (by kernel_rfl) (by rfl) (by rfl)
            · (intro w' hx; go_simp <;> with_reducible rfl)
            simp only [Act.put, List.setIfInBounds_toArray, List.set_cons_zero, List.set_cons_succ]
            apply mixF 4 (by kernel_rfl) (by rfl) (by rfl)
            · (intro w' hx; go_simp <;> with_reducible rfl)
            simp only [Act.put, List.setIfInBounds_toArray, List.set_cons_zero, List.set_cons_succ]
            apply mixF 5 (by kernel_rfl) (by rfl) (by rfl)
            · (intro w' hx; have q := ((ext_trans hd hx).cell (p := ⟨b, o + k * 2, none⟩) (show b < W.heap.size by omega)).trans ck; go_simp <;> with_reducible rfl)
            simp only [Act.put, List.setIfInBounds_toArray, List.set_cons_zero, List.set_cons_succ]
            apply mixF 6 (by kernel_rfl) (by rfl) (by rfl)
            · (intro w' hx; go_simp <;> with_reducible rfl)
            simp only [Act.put, List.setIfInBounds_toArray, List.set_cons_zero, List.set_cons_succ]
            apply mixF 7 (by kernel_rfl) (by rfl) (by rfl)
            · (intro w' hx; have q := ((bq.ext (ext_trans hr hx)).cells2).2; go_simp <;> with_reducible rfl)
            simp only [Act.put, List.setIfInBounds_toArray, List.set_cons_zero, List.set_cons_succ]
            apply mixF 8 (by kernel_rfl) (by rfl) (by rfl)
            · (intro w' hx; go_simp <;> with_reducible rfl)
            simp only [Act.put, List.setIfInBounds_toArray, List.set_cons_zero, List.set_cons_succ]
            apply mixF 9 (by kernel_rfl) (by rfl) (by rfl)
            · (intro w' hx; go_simp <;> with_reducible rfl)
            simp only [Act.put, List.setIfInBounds_toArray, List.set_cons_zero, List.set_cons_succ]
            apply mixF 10 (by kernel_rfl) (by rfl) (by rfl)
            · (intro w' hx; go_simp <;> with_reducible rfl)
            simp only [Act.put, List.setIfInBounds_toArray, List.set_cons_zero, List.set_cons_succ]
            apply mixF 11 (by kernel_rfl) (by rfl) (by rfl)
            · (intro w' hx; have q := ((ext_trans hd hx).cell (p := ⟨b', o' + k * 2, none⟩) (show b' < W.heap.size by omega)).trans ck'; go_simp <;> with_reducible rfl)
            simp only [Act.put, List.setIfInBounds_toArray, List.set_cons_zero, List.set_cons_succ]
            apply mixF 12 (by kernel_rfl) (by rfl) (by rfl)
            · (intro w' hx; go_simp <;> with_reducible rfl)
            simp only [Act.put, List.setIfInBounds_toArray, List.set_cons_zero, List.set_cons_succ]
            apply mixF 13 (by kernel_rfl) (by rfl) (by rfl)
            · (intro w' hx; go_simp <;> with_reducible rfl)
            simp only [Act.put, List.setIfInBounds_toArray, List.set_cons_zero, List.set_cons_succ]
            refine mixFskip 14 (by kernel_rfl) (by rfl) (by rfl) ?_
            simp only [Act.put, List.setIfInBounds_toArray, List.set_cons_zero, List.set_cons_succ]
            refine mixFskip 15 (by kernel_rfl) (by rfl) (by rfl) ?_
            simp only [Act.put, List.setIfInBounds_toArray, List.set_cons_zero, List.set_cons_succ]
            refine mixFskip 16 (by kernel_rfl) (by rfl) (by rfl) ?_
            simp only [Act.put, List.setIfInBounds_toArray, List.set_cons_zero, List.set_cons_succ]
            refine mixFskip 17 (by kernel_rfl) (by rfl) (by rfl) ?_
            simp only [Act.put, List.setIfInBounds_toArray, List.set_cons_zero, List.set_cons_succ]
            refine mixFskip 18 (by kernel_rfl) (by rfl) (by rfl) ?_
            simp only [Act.put, List.setIfInBounds_toArray, List.set_cons_zero, List.set_cons_succ]
            refine mixFskip 19 (by kernel_rfl) (by rfl) (by rfl) ?_
            simp only [Act.put, List.setIfInBounds_toArray, List.set_cons_zero, List.set_cons_succ]
            refine mixFskip 20 (by kernel_rfl) (by rfl) (by rfl) ?_
            simp only [Act.put, List.setIfInBounds_toArray, List.set_cons_zero, List.set_cons_succ]
            refine mixFskip 21 (by kernel_rfl) (by rfl) (by rfl) ?_
            simp only [Act.put, List.setIfInBounds_toArray, List.set_cons_zero, List.set_cons_succ]
            refine mixFskip 22 (by kernel_rfl) (by rfl) (by rfl) ?_
            simp only [Act.put, List.setIfInBounds_toArray, List.set_cons_zero, List.set_cons_succ]
            refine mixFskip 23 (by kernel_rfl) (by rfl) (by rfl) ?_
            simp only [Act.put, List.setIfInBounds_toArray, List.set_cons_zero, List.set_cons_succ]
            refine mixFskip 24 (by kernel_rfl) (by rfl) (by rfl) ?_
            simp only [Act.put, List.setIfInBounds_toArray, List.set_cons_zero, List.set_cons_succ]
            refine mixFskip 25 (by kernel_rfl) (by rfl) (by rfl) ?_
            simp only [Act.put, List.setIfInBounds_toArray, List.set_cons_zero, List.set_cons_succ]
            refine mixFskip 26 (by kernel_rfl) (by rfl) (by rfl) ?_
            simp only [Act.put, List.setIfInBounds_toArray, List.set_cons_zero, List.set_cons_succ]
            refine mixFskip 27 (by kernel_rfl) (by rfl) (by rfl) ?_
            simp only [Act.put, List.setIfInBounds_toArray, List.set_cons_zero, List.set_cons_succ]
            refine mixFskip 28 (by kernel_rfl) (by rfl) (by rfl) ?_
            simp only [Act.put, List.setIfInBounds_toArray, List.set_cons_zero, List.set_cons_succ]
            apply mixF 29 (by kernel_rfl) (by rfl) (by rfl)
            · (intro w' hx; go_simp <;> with_reducible rfl)
            simp only [Act.put, List.setIfInBounds_toArray, List.set_cons_zero, List.set_cons_succ]
            refine mixEnd (by kernel_rfl) ?_
            go_wp2
            go_ret
            exact ⟨by rw [HF.out]; rfl, ext_trans hwW hd⟩
        · have hT : dSame d d' = true := by
            have := ht.out
            rw [List.take_of_length_le (by have := Hl.out; omega), List.take_of_length_le (by have := Hl'.out; omega)] at this
            unfold dSame
            rw [Hz.out, this]
            simp
          have HT := Lib.hid hT
          clear hT
          go_wp2
          go_ret
          exact ⟨by rw [HT.out]; rfl, ext_trans hwW hd⟩
    · have hne : ((m : Int) != (m' : Int)) = true := by rw [bne_iff_ne]; omega
      have hF : dSame d d' = false := by
        unfold dSame
        rw [Bool.and_eq_false_iff]
        refine .inr (by simp only [decide_eq_false_iff_not]; intro e0; apply hmm; rw [← Hl.out, ← Hl'.out, e0])
      have HF := Lib.hid hF
      clear hF hmm
      go_wp2
      go_ret
      exact ⟨by rw [HF.out]; rfl, ext_trans hwW he1⟩

end Go.Proofs.Ytnganglmpcbcbaa
