/- Walks: the document's Keep. -/
import Derived.Test.YtnganglmpcbcbaaKit4
import Derived.Test.YtnganglmpcbcbaaDskKeep
import Derived.Deep.Cut
import Derived.Deep.CutRange
namespace Go.Proofs.Ytnganglmpcbcbaa
open Go Go.RowKit

/-- What is left of the bits, as the document halves them. -/
def uBits (k : Int) (a : Nat) : Int := k % 18446744073709551616 / 2 ^ a
theorem uBits_zero (k : Int) : IntKind.u64.wrap k = uBits k 0 := by rw [IntKind.wrap_u64]; unfold uBits; simp
theorem uBits_nn (k : Int) (a : Nat) : 0 ≤ uBits k a := Int.ediv_nonneg (by omega) (Int.le_of_lt (Int.pow_pos (by omega)))
theorem uBits_succ (k : Int) (a : Nat) : uBits k a / 2 = uBits k (a + 1) := by
  unfold uBits
  rw [Int.ediv_ediv_of_nonneg (Int.le_of_lt (Int.pow_pos (by omega))), Int.pow_succ]
theorem uBits_wrap (k : Int) (a : Nat) : IntKind.u64.wrap ((uBits k a).tdiv 2) = uBits k (a + 1) := by
  have h0 := uBits_nn k a
  have h1 : uBits k a ≤ k % 18446744073709551616 := Int.ediv_le_self _ (by omega)
  rw [Int.tdiv_eq_ediv_of_nonneg h0, uBits_succ, IntKind.wrap_u64, ← uBits_succ]
  omega
theorem uBits_bit (k : Int) (a : Nat) (h : a < 60) : (uBits k a % 2 == 1) = dBit k a := by
  unfold uBits dBit
  have h2 : (0 : Int) < 2 ^ a := Int.pow_pos (by omega)
  have e : (18446744073709551616 : Int) = 2 ^ a * (2 * 2 ^ (63 - a)) := by
    rw [← Int.mul_assoc, Int.mul_comm (2 ^ a) 2, Int.mul_assoc, ← Int.pow_add, show a + (63 - a) = 63 by omega]
    rfl
  have e2 : k % 18446744073709551616 / 2 ^ a % 2 = k / 2 ^ a % 2 := by
    have h3 : k % 18446744073709551616 = k - 2 ^ a * (2 * 2 ^ (63 - a)) * (k / 18446744073709551616) := by
      rw [← e]; omega
    rw [h3, show k - 2 ^ a * (2 * 2 ^ (63 - a)) * (k / 18446744073709551616) = k + 2 ^ a * (-(2 * 2 ^ (63 - a) * (k / 18446744073709551616))) by rw [Int.mul_neg, Int.mul_assoc, Int.sub_eq_add_neg]]
    rw [Int.add_mul_ediv_left _ _ (by omega)]
    generalize 2 ^ (63 - a) * (k / 18446744073709551616) = z
    rw [Int.mul_assoc]
    omega
  rw [e2]
  rfl

set_option maxRecDepth 100000 in
set_option maxHeartbeats 4000000 in
theorem refKeep_v {T : List TypeId} {base : Nat} {v : Value} {d : Dsk} {k : Int} {w : World} (hT : tD ⊆ T) (hbase : base ≤ w.heap.size) (h : DskV T w base v d) (hk : DskOk d) (hli : LateIn d) :
    Calls Try.prog 55 #[v, .int .i64 k] w fun e w' => ∃ v', e = .returned v' ∧ DskV T w' base v' (dKeep d k) ∧ Ext w w' := by
  obtain ⟨A, n, c, E, e, m, rfl, HN, HE, hb, hl, hnc, hem⟩ := h.form
  have he4 : e ≤ 4096 := by have := hk.late; have := HE.out; omega
  have hn4 : n ≤ 4096 := by have := hk.blocks; have := HN.out; omega
  have HT := Lib.hid hT
  have Hli := Lib.hid hli
  clear hk h hT hli
  go_enter Try.func55, Try.ntmps55
  go_upto_region 1 with (fail)
  obtain ⟨W, hW⟩ : ∃ W, W = (w.alloc (.cells #[.slice A n c, .slice E e m] 46)).alloc (.cells #[.slice none 0 0, .slice none 0 0] 46) := ⟨_, rfl⟩
  rw [← hW]
  have bp : Box W w.heap.size 46 #[.slice A n c, .slice E e m] := by rw [hW]; exact (Box.new w _ _ rfl).alloc _
  have bR : Box W (w.heap.size + 1) 46 #[.slice none 0 0, .slice none 0 0] := by rw [hW]; exact Box.new _ _ _ (size_alloc _ _).symm
  have hwW : Ext w W := by rw [hW]; exact ext_trans (ext_alloc _ _) (ext_alloc _ _)
  have hzW : W.heap.size = w.heap.size + 2 := by rw [hW]; simp
  clear hW
  obtain ⟨m0, m1⟩ := bp.cells2
  have hb0 : Row eBlk T (W.alloc (.cells #[] eBlk.ty)) base (.slice A n c) d.blocks := hb.ext (ext_trans hwW (ext_alloc _ _))
  have hl0 := hl.ext hwW
  have hlt0 : w.heap.size < W.heap.size := by omega
  have ho0 := OwnRow.empty eBlk W (base := base) (Nat.le_refl _)
  rw [hzW] at ho0
  have hA1 : Hid (([] : List (List UInt8)).length + d.blocks.length ≤ lim) := by show _ ≤ _; have := HN.out; rw [lim_def]; simp only [List.length_nil]; omega
  have hA3 : w.heap.size + 2 ≤ (W.alloc (.cells #[] eBlk.ty)).heap.size := by rw [size_alloc]; omega
  go_upto_region 2 with (at_builtin; (refine wpal_blk rfl (.tmp 9) (.tmp 11) rfl rfl ho0 rfl hb0 hA1.out hA3 (by omega) ?_; intro v1 w1 own1 hg1 hb1; obtain ⟨A1, n1, c1, rfl, hc1, _, HN1⟩ := own1.form; simp only [List.nil_append] at own1 HN1))
  have kk1 : Kept [] base W w1 := (Kept.ext (ext_alloc _ _)).trans (Kept.app ho0.choose_spec.2 hg1 (by decide) (by omega))
  have bp1 := (bp.ext (ext_alloc _ _)).below hb1 (by omega)
  have bR1 := (bR.ext (ext_alloc _ _)).below hb1 (by omega)
  have hz1 := hb1.size
  rw [size_alloc] at hz1
  have hx1 : Ext w w1 := (ext_trans hwW (ext_alloc _ _)).trans (hb1.mono (by omega))
  have hWw1 : Below W.heap.size W w1 := (ext_alloc _ _).trans (hb1.mono (by omega))
  have hnn : n1 = n := HN1.out.trans HN.out.symm
  subst hnn
  obtain ⟨w2, hw2⟩ : ∃ w2, w2 = w1.alloc (.cells #[.slice A1 n1 c1, .slice none 0 0] 46) := ⟨_, rfl⟩
  rw [← hw2]
  have b5 : Box w2 w1.heap.size 46 #[.slice A1 n1 c1, .slice none 0 0] := by rw [hw2]; exact Box.new _ _ _ rfl
  have he2 : Ext w1 w2 := by rw [hw2]; exact ext_alloc _ _
  have hz2 : w2.heap.size = w1.heap.size + 1 := by rw [hw2]; simp
  clear hw2 ho0 hb0 m0 m1
  have own2 := own1.ext he2
  have bp2 := bp1.ext he2
  have bR2 := bR1.ext he2
  obtain ⟨m0, m1⟩ := bp2.cells2
  have kk2 : Kept [] base W w2 := kk1.trans (.ext he2)
  have hW2 : Below W.heap.size W w2 := hWw1.trans (he2.mono (by omega))
  have hU := uBits_zero k
  go_wp2_with fail
  clear m0 m1
  have hNp := uBits_nn k
  go_loopw [6, 19] (fun u i wr => ∃ (a : Nat), a ≤ e ∧ i = .int .i64 a ∧ u = .int .u64 (uBits k a) ∧ Box wr w1.heap.size 46 #[.slice A1 n1 c1, .slice none 0 0] ∧ OwnRow eBlk wr (w.heap.size + 2) base (.slice A1 n1 c1) (kTo d.late k d.blocks a) ∧ Kept [] base W wr ∧ Below (w.heap.size + 2) w2 wr) (fun _ i _ => e - (intOf i).toNat)
  case atStart => exact ⟨0, by omega, rfl, by first | rw [← hU] | rfl, b5, own2, kk2, Below.refl _ _⟩
  case round =>
    obtain ⟨a, ha, rfl, rfl, b5r, ownr, kkr, hd⟩ := hrel
    have hU1 := Lib.hid (uBits_wrap k a)
    have hU2 := hNp a
    clear hU hNp
    generalize huu : uBits k a = uu at hU1 hU2
    have Huu := Lib.hid huu
    clear huu
    have hzr := hd.size
    have bRr := bR2.below hd (by omega)
    have hltr := b5r.lt
    obtain ⟨m0, m1⟩ := b5r.cells2
    have hWr : Below (w.heap.size + 2) W wr := (hW2.mono (by omega)).trans hd
    by_cases hlt : a < e
    · obtain ⟨b', o', x, u2, rfl, hb', ck0, cd0, Hx, hy0⟩ := hl0.wr_at hlt
      have ck := (hWr.cell (p := ⟨b', o' + a * 2, none⟩) (show b' < w.heap.size + 2 by omega)).trans ck0
      have cd := (hWr.cell (p := ⟨b', o' + a * 2 + 1, none⟩) (show b' < w.heap.size + 2 by omega)).trans cd0
      have hy2 := hy0.kept kkr
      have hin := Hli.out a (by have := HE.out; omega)
      rw [← Hx.out, ← HN.out] at hin
      obtain ⟨j, rfl⟩ : ∃ j : Nat, x = (j : Int) := ⟨x.toNat, by omega⟩
      have hj : j < n1 := by omega
      have i0 : (0 : Int) ≤ (j : Int) := by omega
      have i1 : (j : Int) < (n1 : Int) := by omega
      have e0 : (0 : Int) ≤ (a : Int) := by omega
      have e2 : (a : Int) < (e : Int) := by omega
      have hst : kTo d.late k d.blocks (a + 1) = if a < 60 ∧ dBit k a = true then (kTo d.late k d.blocks a).set (d.late.getD a (0, [])).1.toNat (d.late.getD a (0, [])).2 else kTo d.late k d.blocks a := rfl
      clear ck0 cd0 hy0
      by_cases hset0 : a < 60 ∧ dBit k a = true
      · obtain ⟨h60, hb1⟩ := hset0
        obtain ⟨g, old, hA1, hg, kg, fg, cg, hold, hset⟩ := ownr.setAt hj (by omega)
        subst hA1
        have hu2 := hset _ _ hy2
        obtain ⟨Au, nu, cu, rfl, _⟩ := hy2
        obtain ⟨Ao, no_, co, rfl, _⟩ := hold
        have hgr := kg.lt
        have hS : Hid ((kTo d.late k d.blocks a).set j (d.late.getD a (0, [])).2 = kTo d.late k d.blocks (a + 1)) := by
          show _ = _
          rw [hst, if_pos ⟨h60, hb1⟩, ← Hx.out]
          rfl
        rw [hS.out] at hu2
        have hne := Kd.ne kg b5r.kd (by decide)
        have hk5 := kkr.setK kg (by decide) (by omega) j (.slice Au nu cu)
        have q6 : (a : Int) < 60 := by omega
        have q7 : (uu % 2 == 1) = true := by rw [← Huu.out, uBits_bit k a h60]; exact hb1
        clear hst hb1
        go_wp2_with fail
        go_roundw
        case rel => exact ⟨a + 1, by omega, by go_num, by rw [← hU1.out], (b5r.setOther (fun e => hne e.symm) _).alloc _, hu2.ext (ext_alloc _ _), hk5.trans (.ext (ext_alloc _ _)), (hd.setCell (by simp; omega) _).alloc (by rw [size_set]; omega) _⟩
        case measure => simp [intOf]; omega
      · have hS : Hid (kTo d.late k d.blocks a = kTo d.late k d.blocks (a + 1)) := by
          show _ = _
          rw [hst, if_neg hset0]
        rw [hS.out] at ownr
        obtain ⟨Au, nu, cu, rfl, _⟩ := hy2
        by_cases h60 : a < 60
        · have hb1 : dBit k a = false := by
            cases hh : dBit k a with
            | false => rfl
            | true => exact absurd ⟨h60, hh⟩ hset0
          have q6 : (a : Int) < 60 := by omega
          have q7 : (uu % 2 == 1) = false := by rw [← Huu.out, uBits_bit k a h60]; exact hb1
          clear hst hset0 hb1
          go_wp2_with fail
          go_roundw
          case rel => exact ⟨a + 1, by omega, by go_num, by rw [← hU1.out], b5r.alloc _, ownr.ext (ext_alloc _ _), kkr.trans (.ext (ext_alloc _ _)), hd.alloc (by omega) _⟩
          case measure => simp [intOf]; omega
        · have q6 : decide ((a : Int) < 60) = false := by simp; omega
          have q8 : (60 : Int) ≤ (a : Int) := by omega
          clear hst hset0
          go_wp2_with fail
          go_roundw
          case rel => exact ⟨a + 1, by omega, by go_num, by rw [← hU1.out], b5r.alloc _, ownr.ext (ext_alloc _ _), kkr.trans (.ext (ext_alloc _ _)), hd.alloc (by omega) _⟩
          case measure => simp [intOf]; omega
    · have hae : a = e := by omega
      subst hae
      have HF : Hid (dKeep d k = ⟨kTo d.late k d.blocks a, []⟩) := by show _ = _; unfold dKeep; rw [HE.out]
      obtain ⟨r0, r1⟩ := bRr.cells2
      have zR := bRr.free
      have k3 := b5r.kd
      have kR := bRr.kd
      have hx : Ext w wr := hwW.trans (hWr.mono (by omega))
      go_wp2
      ((try simp only [Exit.inBlock, Exit.then]); refine bodyPost_ret (v := ?_) ?resultOf rfl ?_; case resultOf => (rw [results_cell1 rfl]; go_simp; rfl))
      rw [HF.out]
      refine ⟨_, rfl, ⟨_, _, rfl, (ownr.kB (by (repeat (with_reducible (first | assumption | exact Kept.refl _ _ _ | (apply Kept.setK; rotate_left; (repeat (first | assumption | apply Kd.set | apply Kd.alloc | apply Kd.drew)); decide; omega) | refine Kept.allocK ?_ _ | refine Kept.drewK ?_))))).row (List.mem_cons_of_mem _ (HT.out (by decide))) (Nat.le_refl _), Row.nil _ _ _ _⟩, ?_⟩
      (repeat (with_reducible (first | assumption | exact Below.refl _ _ | refine Below.setCell ?_ (by simp <;> omega) _ | refine Below.alloc ?_ (by simp <;> omega) _ | refine Below.drew ?_ | refine below_drewN ?_ _)))

end Go.Proofs.Ytnganglmpcbcbaa
