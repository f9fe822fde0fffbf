/- Walks: disk.Flush. -/
import Derived.Test.YtnganglmpcbcbaaKit4
namespace Go.Proofs.Ytnganglmpcbcbaa
open Go Go.RowKit

set_option maxRecDepth 100000 in
set_option maxHeartbeats 4000000 in
theorem dskFlush_v {T : List TypeId} {base : Nat} {v : Value} {d : Dsk} {w : World} (h : DskV T w base v d) (hk : DskOk d) (hli : LateIn d) :
    Calls Try.prog 56 #[v] w fun e w' => ∃ v', e = .returned v' ∧ OwnD w w' v' (dFlush d) ∧ Ext w w' := by
  obtain ⟨A, c, E, m, rfl, h0⟩ := h.at_
  obtain ⟨n, hN⟩ : ∃ n, n = d.blocks.length := ⟨_, rfl⟩
  obtain ⟨e, hE⟩ : ∃ n, n = d.late.length := ⟨_, rfl⟩
  rw [← hN, ← hE] at h h0 ⊢
  have he4 : e ≤ 4096 := by have := hk.late; omega
  have hn4 : n ≤ 4096 := by have := hk.blocks; omega
  have HN := Lib.hid hN
  have HE := Lib.hid hE
  have Hk := Lib.hid hk
  have Hli := Lib.hid hli
  clear hN hE hk hli
  go_enter Try.func56, Try.ntmps56
  go_wp2_with fail
  obtain ⟨W, hW⟩ : ∃ W, W = (w.alloc (.cells #[.slice A n c, .slice E e m] 46)).alloc (.cells #[.slice none 0 0, .slice none 0 0] 46) := ⟨_, rfl⟩
  rw [← hW]
  have bR : Box W (w.heap.size + 1) 46 #[.slice none 0 0, .slice none 0 0] := by rw [hW]; exact Box.new _ _ _ (size_alloc _ _).symm
  have hwW : Ext w W := by rw [hW]; exact ext_trans (ext_alloc _ _) (ext_alloc _ _)
  have hzW : W.heap.size = w.heap.size + 2 := by rw [hW]; simp
  clear hW h0
  refine (dskOwn_v (h.ext hwW) Hk.out).mono ?_
  rintro e0 w1 ⟨_, rfl, ⟨vb, vl, rfl, hob, hol⟩, he1⟩
  obtain ⟨A1, n1, c1, rfl, hc1, _, HN1⟩ := hob.form
  obtain ⟨A2, e1, c3, rfl, hc3, _, HE1⟩ := hol.form
  have hnn : n1 = n := HN1.out.trans HN.out.symm
  have hee : e1 = e := HE1.out.trans HE.out.symm
  subst hnn hee
  have hz1 := he1.size
  have hlt1 : w.heap.size + 1 < w1.heap.size := by omega
  have bR1 := bR.ext he1
  have hww : Ext w w1 := ext_trans hwW he1
  clear bR
  go_wp2_with fail
  obtain ⟨w2, hw2⟩ : ∃ w2, w2 = w1.alloc (.cells #[.slice A1 n1 c1, .slice A2 e1 c3] 46) := ⟨_, rfl⟩
  rw [← hw2]
  have b3 : Box w2 w1.heap.size 46 #[.slice A1 n1 c1, .slice A2 e1 c3] := by rw [hw2]; exact Box.new _ _ _ rfl
  have he2 : Ext w1 w2 := by rw [hw2]; exact ext_alloc _ _
  have hz2 : w2.heap.size = w1.heap.size + 1 := by rw [hw2]; simp
  clear hw2
  have hob2 := hob.ext he2
  have hol2 := hol.ext he2
  have bR2 := bR1.ext he2
  go_loopw [11] (fun i wr => ∃ (a : Nat), a ≤ e1 ∧ i = .int .i64 a ∧ Box wr w1.heap.size 46 #[.slice A1 n1 c1, .slice A2 e1 c3] ∧ OwnRow eBlk wr W.heap.size 0 (.slice A1 n1 c1) (fTo d.late d.blocks a) ∧ OwnRow eWr wr W.heap.size 0 (.slice A2 e1 c3) d.late ∧ Below W.heap.size w2 wr) (fun i _ => e1 - (intOf i).toNat)
  case atStart => exact ⟨0, by omega, rfl, b3, hob2, hol2, Below.refl _ _⟩
  case round =>
    obtain ⟨a, ha, rfl, b3r, hobr, holr, hd⟩ := hrel
    have hzr := hd.size
    have bRr := bR2.below hd (by omega)
    obtain ⟨m0, m1⟩ := b3r.cells2
    have hltr := b3r.lt
    by_cases hlt : a < e1
    · obtain ⟨b', o', x, u2, rfl, hb', ck, cd, Hx, hy2⟩ := (holr.row (T := tD) (by decide) (Nat.le_refl _)).wr_at hlt
      have hin := Hli.out a (by have := HE.out; omega)
      rw [← Hx.out, ← HN.out] at hin
      obtain ⟨j, rfl⟩ : ∃ j : Nat, x = (j : Int) := ⟨x.toNat, by omega⟩
      have hj : j < n1 := by omega
      have i0 : (0 : Int) ≤ (j : Int) := by omega
      have i1 : (j : Int) < (n1 : Int) := by omega
      have e0 : (0 : Int) ≤ (a : Int) := by omega
      have e2 : (a : Int) < (e1 : Int) := by omega
      obtain ⟨g, old, hA1, hg, kg, fg, cg, hold, hset⟩ := hobr.setAt hj (Nat.zero_le _)
      subst hA1
      have hu2 := hset _ _ hy2
      obtain ⟨Au, nu, cu, rfl, _⟩ := hy2
      obtain ⟨Ao, no_, co, rfl, _⟩ := hold
      have hgr := kg.lt
      have hS : Hid ((fTo d.late d.blocks a).set j (d.late.getD a (0, [])).2 = fTo d.late d.blocks (a + 1)) := by
        show _ = ((fTo d.late d.blocks a).set (d.late.getD a (0, [])).1.toNat (d.late.getD a (0, [])).2)
        rw [← Hx.out]
        rfl
      rw [hS.out] at hu2
      have hne := Kd.ne kg b3r.kd (by decide)
      have hk5 := (Kept.refl [60] 0 wr).setK kg (by decide) (by omega) j (.slice Au nu cu)
      go_wp2_with fail
      go_roundw
      case rel => exact ⟨a + 1, by omega, by go_num, (b3r.setOther (fun e => hne e.symm) _).alloc _, hu2.ext (ext_alloc _ _), (holr.kept (by decide) (Nat.le_refl _) hk5).ext (ext_alloc _ _), (hd.setCell (by simp; omega) _).alloc (by rw [size_set]; omega) _⟩
      case measure => simp [intOf]; omega
    · have hae : a = e1 := by omega
      subst hae
      have HF : Hid (dFlush d = ⟨fTo d.late d.blocks a, []⟩) := by show _ = _; unfold dFlush; rw [HE.out]
      have z3 := b3r.free
      obtain ⟨r0, r1⟩ := bRr.cells2
      have zR := bRr.free
      have k3 := b3r.kd
      have kR := bRr.kd
      go_wp2
      ((try simp only [Exit.inBlock, Exit.then]); refine bodyPost_ret (v := ?_) ?resultOf rfl ?_; case resultOf => (rw [results_cell1 rfl]; go_simp; rfl))
      rw [HF.out]
      refine ⟨_, rfl, ⟨_, _, rfl, (hobr.kB (by (repeat (with_reducible (first | assumption | exact Kept.refl _ _ _ | (apply Kept.setK; rotate_left; (repeat (first | assumption | apply Kd.set | apply Kd.alloc | apply Kd.drew)); decide; omega) | refine Kept.allocK ?_ _ | refine Kept.drewK ?_))))).more (rb' := w.heap.size) (by omega) (Nat.le_refl _), OwnRow.nil _ _ _ _⟩, ?_⟩
      have hx : Ext w wr := (ext_trans hww he2).trans (hd.mono (by omega))
      (repeat (with_reducible (first | assumption | exact Below.refl _ _ | refine Below.setCell ?_ (by simp <;> omega) _ | refine Below.alloc ?_ (by simp <;> omega) _ | refine Below.drew ?_ | refine below_drewN ?_ _)))

end Go.Proofs.Ytnganglmpcbcbaa
