/- Walks: the document's GetBlock. -/
import Derived.Test.YtnganglmpcbcbaaKit3
import Derived.Test.YtnganglmpcbcbaaDskGet
namespace Go.Proofs.Ytnganglmpcbcbaa
open Go Go.RowKit

set_option maxRecDepth 100000 in
set_option maxHeartbeats 4000000 in
theorem refGet_v {T : List TypeId} {base : Nat} {v : Value} {d : Dsk} {k : Int} {w : World} (h : DskV T w base v d) (hk : DskOk d) :
    Calls Try.prog 53 #[v, .int .i64 k] w fun e w' => ∃ v' q, e = .returned (.tuple #[v', .int .i64 q]) ∧ q = (dGet d k).2 ∧ ByT w' base v' (dGet d k).1 ∧ Ext w w' := by
  obtain ⟨A, n, c, E, e, m, rfl, HN, HE, hb, hl, hnc, hem⟩ := h.form
  have hn : n ≤ 4096 := by have := hk.blocks; have := HN.out; omega
  have he4 : e ≤ 4096 := by have := hk.late; have := HE.out; omega
  have hp : ∀ v, dGet d k = v → Hid (dGet d k = v) := fun _ h => h
  clear h hk
  go_enter Try.func53, Try.ntmps53
  by_cases hlo : k < 0 ∨ (n : Int) ≤ k
  · have HP := hp ([], 3) (by unfold dGet; rw [if_pos (by rw [← HN.out]; exact hlo)])
    have hk1 : k < 0 ∨ (¬ k < 0 ∧ (n : Int) ≤ k) := by omega
    rcases hk1 with hk1 | ⟨hk1, hk2⟩
    · have q1 : decide (k < 0) = true := by simpa using hk1
      clear hlo hk1
      go_wp2
      go_ret2
      rw [HP.out]
      exact ⟨_, _, rfl, rfl, ByT.nil _ _, ext_alloc _ _⟩
    · have q1 : decide (k < 0) = false := by simpa using hk1
      have q2 : decide ((n : Int) ≤ k) = true := by simpa using hk2
      clear hlo hk1
      go_wp2
      go_ret2
      rw [HP.out]
      exact ⟨_, _, rfl, rfl, ByT.nil _ _, ext_alloc _ _⟩
  · have q1 : decide (k < 0) = false := by simp; omega
    have q2 : decide ((n : Int) ≤ k) = false := by simp; omega
    obtain ⟨j, rfl⟩ : ∃ j : Nat, k = (j : Int) := ⟨k.toNat, by omega⟩
    have hjn : j < n := by omega
    have HP := hp (dLast d.late j (d.blocks.getD j []), 0) (by unfold dGet; rw [if_neg (by rw [← HN.out]; exact hlo)]; rfl)
    have i0 : (0 : Int) ≤ (j : Int) := by omega
    have i1 : (j : Int) < (n : Int) := by omega
    clear hlo hp
    go_wp2_with fail
    obtain ⟨W, hW⟩ : ∃ W, W = w.alloc (.cells #[.slice A n c, .slice E e m] 46) := ⟨_, rfl⟩
    rw [← hW]
    have bp : Box W w.heap.size 46 #[.slice A n c, .slice E e m] := by rw [hW]; exact Box.new w _ _ rfl
    have hwW : Ext w W := by rw [hW]; exact ext_alloc _ _
    clear hW
    have hb := hb.ext hwW
    have hl := hl.ext hwW
    obtain ⟨m0, m1⟩ := bp.cells2
    go_loop [6] (fun i => ∃ (a : Nat), a ≤ e ∧ i = .int .i64 ((a : Int) - 1) ∧ Hid (dLast d.late j (d.blocks.getD j []) = dLast (d.late.take a) j (d.blocks.getD j []))) (fun i => (intOf i + 1).toNat)
    case atStart => exact ⟨e, by omega, rfl, (show _ = _ by rw [List.take_of_length_le (by have := HE.out; omega)])⟩
    case round =>
      obtain ⟨a, ha, rfl, HS⟩ := hrel
      by_cases hlt : 0 < a
      · obtain ⟨a, rfl⟩ : ∃ a', a = a' + 1 := ⟨a - 1, by omega⟩
        have ea : (((a + 1 : Nat) : Int) - 1) = (a : Int) := by omega
        rw [ea]
        obtain ⟨b', o', x, u2, rfl, hb', ck, cd, Hx, hy2⟩ := hl.wr_at (i := a) (by omega)
        have e0 : (0 : Int) ≤ (a : Int) := by omega
        have e1 : (a : Int) < (e : Int) := by omega
        have hst := dLast_take d.late a (by have := HE.out; omega) j (d.blocks.getD j [])
        by_cases hx : x = (j : Int)
        · have HS2 := Lib.hid (show dLast d.late j (d.blocks.getD j []) = (d.late.getD a (0, [])).2 by rw [HS.out, hst, if_pos (by rw [← Hx.out]; exact hx)])
          have q3 : (x == (j : Int)) = true := by simpa using hx
          obtain ⟨Au, nu, cu, rfl, hyu⟩ := hy2
          clear hst hx ea
          go_wp2
          go_ret2
          rw [HP.out]
          exact ⟨_, _, rfl, rfl, by simp only; rw [HS2.out]; exact ⟨_, _, _, rfl, hyu⟩, hwW⟩
        · have HS2 := Lib.hid (show dLast d.late j (d.blocks.getD j []) = dLast (d.late.take a) j (d.blocks.getD j []) by rw [HS.out, hst, if_neg (by rw [← Hx.out]; exact hx)])
          have q3 : (x == (j : Int)) = false := by simpa using hx
          clear hst hx ea
          go_wp2_with fail
          go_round
          case rel => exact ⟨a, by omega, rfl, HS2⟩
          case measure => (simp [intOf]; try omega)
      · have ha0 : a = 0 := by omega
        subst ha0
        have HS2 := Lib.hid (show dLast d.late j (d.blocks.getD j []) = d.blocks.getD j [] by rw [HS.out]; rfl)
        have ez : (((0 : Nat) : Int) - 1) = -1 := by omega
        rw [ez]
        obtain ⟨b', o', u2, rfl, hb', ck, hy2⟩ := hb.blk_at hjn
        obtain ⟨Au, nu, cu, rfl, hyu⟩ := hy2
        clear ez HS
        go_wp2
        go_ret2
        rw [HP.out]
        exact ⟨_, _, rfl, rfl, by simp only; rw [HS2.out]; exact ⟨_, _, _, rfl, hyu⟩, hwW⟩

end Go.Proofs.Ytnganglmpcbcbaa
