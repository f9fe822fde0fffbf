/- Walks: the document's Flush. -/
import Derived.Test.YtnganglmpcbcbaaRefGet
import Derived.Test.YtnganglmpcbcbaaKit4
import Derived.Deep.Cut
import Derived.Deep.CutRange
namespace Go.Proofs.Ytnganglmpcbcbaa
open Go Go.RowKit

/-- The blocks as they were written last. -/
def lastTo (d : Dsk) (a : Nat) : List (List UInt8) := (List.range a).map fun i : Nat => dLast d.late i (d.blocks.getD i [])
theorem lastTo_succ (d : Dsk) (a : Nat) : lastTo d (a + 1) = lastTo d a ++ [dLast d.late a (d.blocks.getD a [])] := by
  unfold lastTo
  rw [List.range_succ, List.map_append]
  rfl
theorem lastTo_length (d : Dsk) (a : Nat) : (lastTo d a).length = a := by simp [lastTo]

set_option maxRecDepth 100000 in
set_option maxHeartbeats 4000000 in
theorem refFlush_v {T : List TypeId} {base : Nat} {v : Value} {d : Dsk} {w : World} (hT : tD ⊆ T) (hbase : base ≤ w.heap.size) (h : DskV T w base v d) (hk : DskOk d) (hli : LateIn d) :
    Calls Try.prog 57 #[v] w fun e w' => ∃ v', e = .returned v' ∧ DskV T w' base v' (dFlush d) ∧ Ext w w' := by
  obtain ⟨A, n, c, E, e, m, rfl, HN, HE, hb, hl, hnc, hem⟩ := h.form
  have hn4 : n ≤ 4096 := by have := hk.blocks; have := HN.out; omega
  have HT := Lib.hid hT
  have Hk := Lib.hid hk
  have HF : Hid (dFlush d = ⟨lastTo d n, []⟩) := by show _ = _; rw [dFlush_map d hli, HN.out]; rfl
  clear hk hT hli
  go_enter Try.func57, Try.ntmps57
  go_wp2_with fail
  obtain ⟨W, hW⟩ : ∃ W, W = ((w.alloc (.cells #[.slice A n c, .slice E e m] 46)).alloc (.cells #[.slice none 0 0, .slice none 0 0] 46)).alloc (.cells #[.slice none 0 0, .slice none 0 0] 46) := ⟨_, rfl⟩
  rw [← hW]
  have bp : Box W w.heap.size 46 #[.slice A n c, .slice E e m] := by rw [hW]; exact ((Box.new w _ _ rfl).alloc _).alloc _
  have bR : Box W (w.heap.size + 1) 46 #[.slice none 0 0, .slice none 0 0] := by rw [hW]; exact (Box.new _ _ _ (size_alloc _ _).symm).alloc _
  have b3 : Box W (w.heap.size + 2) 46 #[.slice none 0 0, .slice none 0 0] := by rw [hW]; exact Box.new _ _ _ (by simp)
  have hwW : Ext w W := by rw [hW]; exact ext_trans (ext_trans (ext_alloc _ _) (ext_alloc _ _)) (ext_alloc _ _)
  have hzW : W.heap.size = w.heap.size + 3 := by rw [hW]; simp
  clear hW
  go_loopw [11] (fun i wr => ∃ (a : Nat) (u : Value), a ≤ n ∧ i = .int .i64 a ∧ Box wr (w.heap.size + 2) 46 #[u, .slice none 0 0] ∧ OwnRow eBlk wr (w.heap.size + 3) base u (lastTo d a) ∧ Below (w.heap.size + 2) W wr) (fun i _ => n - (intOf i).toNat)
  case atStart => exact ⟨0, _, by omega, rfl, b3, OwnRow.nil _ _ _ _, Below.refl _ _⟩
  case round =>
    obtain ⟨a, u, ha, rfl, b3r, ownr, hd⟩ := hrel
    have hzr := hd.size
    have bpr := bp.below hd (by omega)
    have bRr := bR.below hd (by omega)
    have hx : Ext w wr := hwW.trans (hd.mono (by omega))
    by_cases hlt : a < n
    · have e0 : (0 : Int) ≤ (a : Int) := by omega
      have e1 : (a : Int) < (n : Int) := by omega
      have hget : Hid (dGet d a = (dLast d.late a (d.blocks.getD a []), 0)) := by
        show _ = _
        unfold dGet
        rw [if_neg (by have := HN.out; omega)]
        rfl
      have hS := Lib.hid (lastTo_succ d a)
      have hdv := h.ext hx
      obtain ⟨Au, nu, cu, rfl, _, _, HL⟩ := ownr.form
      have hlen : (lastTo d a).length + 1 ≤ lim := by rw [lastTo_length, lim_def]; omega
      obtain ⟨m0, m1⟩ := bpr.cells2
      go_wp2_with fail
      refine (refGet_v hdv Hk.out).mono ?_
      rintro e9 w3 ⟨u3, q3, rfl, hq3, hu3, he3⟩
      rw [hget.out] at hq3 hu3
      have hz3 := he3.size
      have b33 := b3r.ext he3
      have own3 := ownr.ext he3
      have hlt3 : w.heap.size + 2 < w3.heap.size := by omega
      obtain ⟨A3, n3, c3, rfl, hb3y, _⟩ := hu3.form
      obtain ⟨n0, n1⟩ := b33.cells2
      clear m0 m1 hq3
      go_wp2_with (at_builtin; refine wpl_blk rfl (.tmp 21) (.tmp 23) rfl rfl (own3.ext (ext_alloc _ _)) rfl (Sl.new _ _ _ _ 1 1 rfl (by unfold maxLen; omega) (Nat.lt_succ_self _)) ⟨_, rfl, hu3.kept (T := []) (.ext (ext_alloc _ _))⟩ hlen (by rw [size_alloc]; omega) (by omega) ?_; intro v7 w7 own7 hg7 hb7; obtain ⟨A7, n7, c7, rfl, _, _, _⟩ := own7.form; have b37 := (b33.ext (ext_alloc _ _)).below hb7 (by omega); obtain ⟨u0, u1⟩ := b37.cells2; have z7 := b37.free)
      go_roundw
      case rel =>
        have k7 := b37.kd
        refine ⟨a + 1, _, by omega, by go_num, b37.set 0 _, ?_, ((hd.trans (he3.mono (by omega))).trans (((ext_alloc _ _).mono (by omega)).trans (hb7.mono (by omega)))).setCell (Nat.le_refl _) _⟩
        rw [hS.out]
        exact own7.kept (T := [22]) (by decide) (Nat.le_refl _) (by (repeat (with_reducible (first | assumption | exact Kept.refl _ _ _ | (apply Kept.setK; rotate_left; (repeat (first | assumption | apply Kd.set | apply Kd.alloc | apply Kd.drew)); decide; omega) | refine Kept.allocK ?_ _ | refine Kept.drewK ?_))))
      case measure => simp [intOf]; omega
    · have hae : a = n := by omega
      subst hae
      obtain ⟨Au, nu, cu, rfl, _, _, HL⟩ := ownr.form
      obtain ⟨m0, m1⟩ := b3r.cells2
      obtain ⟨r0, r1⟩ := bRr.cells2
      have zR := bRr.free
      have k3 := b3r.kd
      have kR := bRr.kd
      go_wp2
      ((try simp only [Exit.inBlock, Exit.then]); refine bodyPost_ret (v := ?_) ?resultOf rfl ?_; case resultOf => (rw [results_cell1 rfl]; go_simp; rfl))
      rw [HF.out]
      refine ⟨_, rfl, ⟨_, _, rfl, (ownr.kB (by (repeat (with_reducible (first | assumption | exact Kept.refl _ _ _ | (apply Kept.setK; rotate_left; (repeat (first | assumption | apply Kd.set | apply Kd.alloc | apply Kd.drew)); decide; omega) | refine Kept.allocK ?_ _ | refine Kept.drewK ?_))))).row (List.mem_cons_of_mem _ (HT.out (by decide))) (Nat.le_refl _), Row.nil _ _ _ _⟩, ?_⟩
      (repeat (with_reducible (first | assumption | exact Below.refl _ _ | refine Below.setCell ?_ (by simp <;> omega) _ | refine Below.alloc ?_ (by simp <;> omega) _ | refine Below.drew ?_ | refine below_drewN ?_ _)))

end Go.Proofs.Ytnganglmpcbcbaa
