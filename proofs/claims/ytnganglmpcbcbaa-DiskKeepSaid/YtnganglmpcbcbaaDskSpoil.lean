/- Walks: disk.Spoil. -/
import Derived.Test.YtnganglmpcbcbaaSpoil
namespace Go.Proofs.Ytnganglmpcbcbaa
open Go Go.RowKit

theorem xor_u8 (a : UInt8) (y : Int) : bits .xor .u8 (a.toNat : Int) (IntKind.u8.wrap y) = ((a ^^^ b8 y).toNat : Int) := by
  have e : IntKind.u8.wrap y = ((b8 y).toNat : Int) := by rw [b8_toNat, IntKind.wrap_u8]; omega
  rw [e]
  generalize b8 y = c
  show IntKind.u8.wrap ((BitVec.ofInt 8 (a.toNat : Int) ^^^ BitVec.ofInt 8 (c.toNat : Int)).toNat : Int) = _
  have h1 : ∀ x : UInt8, (BitVec.ofInt 8 (x.toNat : Int)).toNat = x.toNat := fun x => by
    rw [BitVec.ofInt_natCast, BitVec.toNat_ofNat]
    exact Nat.mod_eq_of_lt x.toNat_lt
  rw [BitVec.toNat_xor, h1, h1, ← UInt8.toNat_xor, IntKind.wrap_u8]
  have := (a ^^^ c).toNat_lt
  omega

set_option maxRecDepth 100000 in
set_option maxHeartbeats 4000000 in
theorem dskSpoil_v {T : List TypeId} {base : Nat} {v : Value} {d : Dsk} {k n y : Int} {w : World} (h : DskV T w base v d) (hk : DskOk d) :
    Calls Try.prog 58 #[v, .int .i64 k, .int .i64 n, .int .i64 y] w fun e w' => ∃ v', e = .returned v' ∧ OwnD w w' v' (dSpoil d k n y) ∧ Ext w w' := by
  obtain ⟨A, m, c, E, e, f, rfl, HN, HE, _, _, hmc, hef⟩ := h.form
  have he4 : e ≤ 4096 := by have := hk.late; have := HE.out; omega
  have hm4 : m ≤ 4096 := by have := hk.blocks; have := HN.out; omega
  have Hk := Lib.hid hk
  have hp : ∀ v, dSpoil d k n y = v → Hid (dSpoil d k n y = v) := fun _ h => h
  clear hk
  go_enter Try.func58, Try.ntmps58
  go_wp2_with fail
  obtain ⟨W, hW⟩ : ∃ W, W = (w.alloc (.cells #[.slice A m c, .slice E e f] 46)).alloc (.cells #[.slice none 0 0, .slice none 0 0] 46) := ⟨_, rfl⟩
  rw [← hW]
  have bR : Box W (w.heap.size + 1) 46 #[.slice none 0 0, .slice none 0 0] := by rw [hW]; exact Box.new _ _ _ (size_alloc _ _).symm
  have hwW : Ext w W := by rw [hW]; exact ext_trans (ext_alloc _ _) (ext_alloc _ _)
  have hzW : W.heap.size = w.heap.size + 2 := by rw [hW]; simp
  clear hW
  refine (dskOwn_a (h.ext hwW) Hk.out).mono ?_
  rintro e0 w1 ⟨_, rfl, ⟨vb, vl, rfl, hob, hol⟩, hap, he1⟩
  obtain ⟨A1, n1, c1, rfl, hc1, _, HN1⟩ := hob.form
  obtain ⟨A2, e1, c3, rfl, hc3, _, HE1⟩ := hol.form
  have hnn : n1 = m := HN1.out.trans HN.out.symm
  have hee : e1 = e := HE1.out.trans HE.out.symm
  subst hnn hee
  have hz1 := he1.size
  have hlt0 : w.heap.size < w1.heap.size := by omega
  have hlt1 : w.heap.size + 1 < w1.heap.size := by omega
  have bR1 := bR.ext he1
  have hww : Ext w w1 := ext_trans hwW he1
  obtain ⟨r0, r1⟩ := bR1.cells2
  have zR := bR1.free
  have kR := bR1.kd
  have hpar : ∀ j : Nat, j < n1 → (d.blocks.getD j []).length = (d.blocks.getD j []).length := fun _ _ => rfl
  clear bR hpar h
  by_cases g1 : 0 ≤ k
  · by_cases g2 : k < (n1 : Int)
    · obtain ⟨j, rfl⟩ : ∃ j : Nat, k = (j : Int) := ⟨k.toNat, by omega⟩
      have hj : j < n1 := by omega
      by_cases g3 : 0 ≤ n
      · obtain ⟨i, rfl⟩ : ∃ i : Nat, n = (i : Int) := ⟨n.toNat, by omega⟩
        obtain ⟨g, Au, nu, cu, rfl, hg, cg, Hnu, hcu, hby⟩ := spoil_rows (i := i) hob hol hap hj
        by_cases g4 : i < nu
        · obtain ⟨b, o, x, rfl, hLb, hb, kb, fb, cb, Hx, hset⟩ := hby g4
          have HP := hp (⟨d.blocks.set j ((d.blocks.getD j []).set i ((d.blocks.getD j []).getD i 0 ^^^ b8 y)), d.late⟩) (by
            unfold dSpoil
            rw [if_pos ⟨g1, by rw [← HN.out]; exact g2, g3, by rw [Int.toNat_natCast, ← Hnu.out]; omega⟩]
            simp)
          have hx : bits .xor .u8 x (y % 256) = (((d.blocks.getD j []).getD i 0 ^^^ b8 y).toNat : Int) := by rw [Hx.out, ← IntKind.wrap_u8]; exact xor_u8 _ _
          obtain ⟨s1, s2⟩ := hset ((d.blocks.getD j []).getD i 0 ^^^ b8 y)
          generalize hz : (((d.blocks.getD j []).getD i 0 ^^^ b8 y).toNat : Int) = z at hx s1 s2
          have q4 : (i : Int) < (nu : Int) := by omega
          have hneR := Kd.ne kb kR (by decide)
          clear hz hap
          go_wp2
          ((try simp only [Exit.inBlock, Exit.then]); refine bodyPost_ret (v := ?_) ?resultOf rfl ?_; case resultOf => (rw [results_cell1 rfl]; go_simp; rfl))
          rw [HP.out]
          have kR2 := kR.set ⟨b, o + i, none⟩ (.int .u8 z)
          refine ⟨_, rfl, ⟨_, _, rfl, (s1.kB (by (repeat (with_reducible (first | assumption | exact Kept.refl _ _ _ | (apply Kept.setK; rotate_left; (repeat (first | assumption | apply Kd.set | apply Kd.alloc | apply Kd.drew)); decide; omega) | refine Kept.allocK ?_ _ | refine Kept.drewK ?_))))).more (rb' := w.heap.size) (by omega) (Nat.le_refl _), (s2.kW (by (repeat (with_reducible (first | assumption | exact Kept.refl _ _ _ | (apply Kept.setK; rotate_left; (repeat (first | assumption | apply Kd.set | apply Kd.alloc | apply Kd.drew)); decide; omega) | refine Kept.allocK ?_ _ | refine Kept.drewK ?_))))).more (rb' := w.heap.size) (by omega) (Nat.le_refl _)⟩, ?_⟩
          (repeat (with_reducible (first | assumption | exact Below.refl _ _ | refine Below.setCell ?_ (by simp <;> omega) _ | refine Below.alloc ?_ (by simp <;> omega) _ | refine Below.drew ?_ | refine below_drewN ?_ _)))
        · have q4 : decide ((i : Int) < (nu : Int)) = false := by simp; omega
          have q4' : (nu : Int) ≤ (i : Int) := by omega
          have HP := hp d (by unfold dSpoil; rw [if_neg (by rintro ⟨_, _, _, h⟩; rw [Int.toNat_natCast, ← Hnu.out] at h; omega)])
          clear g4 hap
          go_wp2
          ((try simp only [Exit.inBlock, Exit.then]); refine bodyPost_ret (v := ?_) ?resultOf rfl ?_; case resultOf => (rw [results_cell1 rfl]; go_simp; rfl))
          rw [HP.out]
          refine ⟨_, rfl, ⟨_, _, rfl, (hob.kB (by (repeat (with_reducible (first | assumption | exact Kept.refl _ _ _ | (apply Kept.setK; rotate_left; (repeat (first | assumption | apply Kd.set | apply Kd.alloc | apply Kd.drew)); decide; omega) | refine Kept.allocK ?_ _ | refine Kept.drewK ?_))))).more (rb' := w.heap.size) (by omega) (Nat.le_refl _), (hol.kW (by (repeat (with_reducible (first | assumption | exact Kept.refl _ _ _ | (apply Kept.setK; rotate_left; (repeat (first | assumption | apply Kd.set | apply Kd.alloc | apply Kd.drew)); decide; omega) | refine Kept.allocK ?_ _ | refine Kept.drewK ?_))))).more (rb' := w.heap.size) (by omega) (Nat.le_refl _)⟩, ?_⟩
          (repeat (with_reducible (first | assumption | exact Below.refl _ _ | refine Below.setCell ?_ (by simp <;> omega) _ | refine Below.alloc ?_ (by simp <;> omega) _ | refine Below.drew ?_ | refine below_drewN ?_ _)))
      · have q3 : decide (0 ≤ n) = false := by simpa using g3
        have q3' : n < 0 := by omega
        have HP := hp d (by unfold dSpoil; rw [if_neg (fun h => g3 h.2.2.1)])
        clear g3 hap
        go_wp2
        ((try simp only [Exit.inBlock, Exit.then]); refine bodyPost_ret (v := ?_) ?resultOf rfl ?_; case resultOf => (rw [results_cell1 rfl]; go_simp; rfl))
        rw [HP.out]
        refine ⟨_, rfl, ⟨_, _, rfl, (hob.kB (by (repeat (with_reducible (first | assumption | exact Kept.refl _ _ _ | (apply Kept.setK; rotate_left; (repeat (first | assumption | apply Kd.set | apply Kd.alloc | apply Kd.drew)); decide; omega) | refine Kept.allocK ?_ _ | refine Kept.drewK ?_))))).more (rb' := w.heap.size) (by omega) (Nat.le_refl _), (hol.kW (by (repeat (with_reducible (first | assumption | exact Kept.refl _ _ _ | (apply Kept.setK; rotate_left; (repeat (first | assumption | apply Kd.set | apply Kd.alloc | apply Kd.drew)); decide; omega) | refine Kept.allocK ?_ _ | refine Kept.drewK ?_))))).more (rb' := w.heap.size) (by omega) (Nat.le_refl _)⟩, ?_⟩
        (repeat (with_reducible (first | assumption | exact Below.refl _ _ | refine Below.setCell ?_ (by simp <;> omega) _ | refine Below.alloc ?_ (by simp <;> omega) _ | refine Below.drew ?_ | refine below_drewN ?_ _)))
    · have q2 : decide (k < (n1 : Int)) = false := by simpa using g2
      have q2' : (n1 : Int) ≤ k := by omega
      have HP := hp d (by unfold dSpoil; rw [if_neg (fun h => g2 (by rw [HN.out]; exact h.2.1))])
      clear g2 hap
      go_wp2
      ((try simp only [Exit.inBlock, Exit.then]); refine bodyPost_ret (v := ?_) ?resultOf rfl ?_; case resultOf => (rw [results_cell1 rfl]; go_simp; rfl))
      rw [HP.out]
      refine ⟨_, rfl, ⟨_, _, rfl, (hob.kB (by (repeat (with_reducible (first | assumption | exact Kept.refl _ _ _ | (apply Kept.setK; rotate_left; (repeat (first | assumption | apply Kd.set | apply Kd.alloc | apply Kd.drew)); decide; omega) | refine Kept.allocK ?_ _ | refine Kept.drewK ?_))))).more (rb' := w.heap.size) (by omega) (Nat.le_refl _), (hol.kW (by (repeat (with_reducible (first | assumption | exact Kept.refl _ _ _ | (apply Kept.setK; rotate_left; (repeat (first | assumption | apply Kd.set | apply Kd.alloc | apply Kd.drew)); decide; omega) | refine Kept.allocK ?_ _ | refine Kept.drewK ?_))))).more (rb' := w.heap.size) (by omega) (Nat.le_refl _)⟩, ?_⟩
      (repeat (with_reducible (first | assumption | exact Below.refl _ _ | refine Below.setCell ?_ (by simp <;> omega) _ | refine Below.alloc ?_ (by simp <;> omega) _ | refine Below.drew ?_ | refine below_drewN ?_ _)))
  · have q1 : decide (0 ≤ k) = false := by simpa using g1
    have q1' : k < 0 := by omega
    have HP := hp d (by unfold dSpoil; rw [if_neg (fun h => g1 h.1)])
    clear g1 hap
    go_wp2
    ((try simp only [Exit.inBlock, Exit.then]); refine bodyPost_ret (v := ?_) ?resultOf rfl ?_; case resultOf => (rw [results_cell1 rfl]; go_simp; rfl))
    rw [HP.out]
    refine ⟨_, rfl, ⟨_, _, rfl, (hob.kB (by (repeat (with_reducible (first | assumption | exact Kept.refl _ _ _ | (apply Kept.setK; rotate_left; (repeat (first | assumption | apply Kd.set | apply Kd.alloc | apply Kd.drew)); decide; omega) | refine Kept.allocK ?_ _ | refine Kept.drewK ?_))))).more (rb' := w.heap.size) (by omega) (Nat.le_refl _), (hol.kW (by (repeat (with_reducible (first | assumption | exact Kept.refl _ _ _ | (apply Kept.setK; rotate_left; (repeat (first | assumption | apply Kd.set | apply Kd.alloc | apply Kd.drew)); decide; omega) | refine Kept.allocK ?_ _ | refine Kept.drewK ?_))))).more (rb' := w.heap.size) (by omega) (Nat.le_refl _)⟩, ?_⟩
    (repeat (with_reducible (first | assumption | exact Below.refl _ _ | refine Below.setCell ?_ (by simp <;> omega) _ | refine Below.alloc ?_ (by simp <;> omega) _ | refine Below.drew ?_ | refine below_drewN ?_ _)))

end Go.Proofs.Ytnganglmpcbcbaa
