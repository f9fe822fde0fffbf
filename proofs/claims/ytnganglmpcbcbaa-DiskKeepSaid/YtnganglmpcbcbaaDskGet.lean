/- Walks: disk.Get, the document's GetBlock. -/
import Derived.Test.YtnganglmpcbcbaaKit2
namespace Go.Proofs.Ytnganglmpcbcbaa
open Go Go.RowKit

theorem dLast_or (l : List (Int × List UInt8)) (k : Int) (b : List UInt8) : dLast l k b = b ∨ ∃ i, i < l.length ∧ dLast l k b = (l.getD i (0, [])).2 := by
  have : ∀ j, j ≤ l.length → dLast (l.take j) k b = b ∨ ∃ i, i < l.length ∧ dLast (l.take j) k b = (l.getD i (0, [])).2 := by
    intro j
    induction j with
    | zero => intro _; exact .inl rfl
    | succ j ih =>
      intro hj
      rw [dLast_take l j (by omega)]
      split
      · exact .inr ⟨j, by omega, rfl⟩
      · exact ih (by omega)
  have h := this l.length (Nat.le_refl _)
  rwa [List.take_length] at h

set_option maxRecDepth 100000 in
set_option maxHeartbeats 4000000 in
theorem dskGet_v {T : List TypeId} {base : Nat} {v : Value} {d : Dsk} {k : Int} {w : World} (h : DskV T w base v d) (hk : DskOk d) :
    Calls Try.prog 52 #[v, .int .i64 k] w fun e w' => ∃ v' q, e = .returned (.tuple #[v', .int .i64 q]) ∧ q = (dGet d k).2 ∧ ByT w' 0 v' (dGet d k).1 ∧ Ext w w' := by
  obtain ⟨A, c, E, m, rfl, h0⟩ := h.at_
  clear h
  obtain ⟨n, hN⟩ : ∃ n, n = d.blocks.length := ⟨_, rfl⟩
  obtain ⟨e, hE⟩ : ∃ n, n = d.late.length := ⟨_, rfl⟩
  rw [← hN, ← hE] at h0 ⊢
  have hn : n ≤ 4096 := by have := hk.blocks; omega
  have he4 : e ≤ 4096 := by have := hk.late; omega
  have HN := Lib.hid hN
  have HE := Lib.hid hE
  have Hk := Lib.hid hk
  have hp : ∀ v, dGet d k = v → Hid (dGet d k = v) := fun _ h => h
  clear hN hE hk
  go_enter Try.func52, Try.ntmps52
  by_cases hlo : k < 0 ∨ (n : Int) ≤ k
  · have HP := hp ([], 3) (by unfold dGet; rw [if_pos (by rw [← HN.out]; exact hlo)])
    have hk1 : k < 0 ∨ (¬ k < 0 ∧ (n : Int) ≤ k) := by omega
    rcases hk1 with hk1 | ⟨hk1, hk2⟩
    · have q1 : decide (k < 0) = true := by simpa using hk1
      clear hlo hk1
      go_wp2
      go_ret2
      rw [HP.out]
      exact ⟨_, _, rfl, rfl, ByT.nil _ _, ext_alloc _ _⟩
    · have q1 : decide (k < 0) = false := by simpa using hk1
      have q2 : decide ((n : Int) ≤ k) = true := by simpa using hk2
      clear hlo hk1
      go_wp2
      go_ret2
      rw [HP.out]
      exact ⟨_, _, rfl, rfl, ByT.nil _ _, ext_alloc _ _⟩
  · have q1 : decide (k < 0) = false := by simp; omega
    have q2 : decide ((n : Int) ≤ k) = false := by simp; omega
    obtain ⟨j, rfl⟩ : ∃ j : Nat, k = (j : Int) := ⟨k.toNat, by omega⟩
    have hjn : j < n := by omega
    have HP := hp (dLast d.late j (d.blocks.getD j []), 0) (by unfold dGet; rw [if_neg (by rw [← HN.out]; exact hlo)]; rfl)
    have i0 : (0 : Int) ≤ (j : Int) := by omega
    have i1 : (j : Int) < (n : Int) := by omega
    clear hlo hp
    obtain ⟨W, hW⟩ : ∃ W, W = w.alloc (.cells #[.slice A n c, .slice E e m] 46) := ⟨_, rfl⟩
    have bp : Box W w.heap.size 46 #[.slice A n c, .slice E e m] := by rw [hW]; exact Box.new w _ _ rfl
    have hwW : Ext w W := by rw [hW]; exact ext_alloc _ _
    have hW1 := h0.below hwW
    obtain ⟨b, o, A1, n1, c1, rfl, hb, hc1, hy1⟩ := hW1.blocks.at_ hjn
    have hy1 : ByV W w.heap.size (.slice A1 n1 c1) (d.blocks.getD j []) := ⟨_, _, _, rfl, hy1⟩
    have hcc : (w.alloc (.cells #[.slice (some ⟨b, o, none⟩) n c, .slice E e m] 46)).cell? ⟨b, o + j, none⟩ = some (.slice A1 n1 c1) := by rw [← hW]; exact hc1
    go_wp2_with fail
    rw [← hW]
    clear hcc hW
    go_loopw [6, 26] (fun u i wr => ∃ (a : Nat), a ≤ e ∧ i = .int .i64 a ∧ ByV W w.heap.size u (dLast (d.late.take a) j (d.blocks.getD j [])) ∧ Ext W wr) (fun _ i _ => e - (intOf i).toNat)
    case atStart => exact ⟨0, by omega, rfl, by simpa [dLast_nil] using hy1, Below.refl _ _⟩
    case round =>
      obtain ⟨a, ha, rfl, hu, hd⟩ := hrel
      obtain ⟨Au, nu, cu, rfl, hyu⟩ := hu
      by_cases hlt : a < e
      · obtain ⟨b', o', x, A2, n2, c2, rfl, hb', ck, cd, Hx, hy2⟩ := hW1.late.at_ hlt
        rw [← Nat.add_assoc] at cd
        have ckr := (hd.cell (p := ⟨b', o' + a * 2, none⟩) (show b' < W.heap.size by have := hwW.size; omega)).trans ck
        have cdr := (hd.cell (p := ⟨b', o' + a * 2 + 1, none⟩) (show b' < W.heap.size by have := hwW.size; omega)).trans cd
        have e0 : (0 : Int) ≤ (a : Int) := by omega
        have e1 : (a : Int) < (e : Int) := by omega
        have hst := dLast_take d.late a (by have := HE.out; omega) j (d.blocks.getD j [])
        by_cases hx : x = (j : Int)
        · have HS := Lib.hid (show dLast (d.late.take (a + 1)) j (d.blocks.getD j []) = (d.late.getD a (0, [])).2 by rw [hst, if_pos (by rw [← Hx.out]; exact hx)])
          have q3 : (x == (j : Int)) = true := by simpa using hx
          clear hst hx
          go_wp2_with fail
          go_roundw
          case rel => exact ⟨a + 1, by omega, by go_num, by rw [HS.out]; exact ⟨_, _, _, rfl, hy2⟩, ext_trans hd (ext_alloc _ _)⟩
          case measure => simp [intOf]; omega
        · have HS := Lib.hid (show dLast (d.late.take (a + 1)) j (d.blocks.getD j []) = dLast (d.late.take a) j (d.blocks.getD j []) by rw [hst, if_neg (by rw [← Hx.out]; exact hx)])
          have q3 : (x == (j : Int)) = false := by simpa using hx
          clear hst hx
          go_wp2_with fail
          go_roundw
          case rel => exact ⟨a + 1, by omega, by go_num, by rw [HS.out]; exact ⟨_, _, _, rfl, hyu⟩, ext_trans hd (ext_alloc _ _)⟩
          case measure => simp [intOf]; omega
      · have hae : a = e := by omega
        subst hae
        rw [List.take_of_length_le (by have := HE.out; omega)] at hyu
        have hl4 : (dLast d.late j (d.blocks.getD j [])).length ≤ 4096 := by
          rcases dLast_or d.late j (d.blocks.getD j []) with e0 | ⟨i, _, e0⟩
          · rw [e0]; exact Hk.out.block j
          · rw [e0]; exact Hk.out.write i
        have hzW := hwW.size
        have hzr := hd.size
        have hnu : nu ≤ 4096 := by have := By.len hyu; omega
        have hyr := Sl.below hyu (hd.mono (show w.heap.size ≤ W.heap.size by omega))
        go_wp2_with fail
        refine (clone_w _ hyr (by omega) (by rw [blim_def]; omega)).mono ?_
        rintro e9 w9 ⟨v9, rfl, own9, he9⟩
        obtain ⟨A9, c9, rfl, _⟩ := own_shape own9
        go_wp2
        go_ret2
        rw [HP.out]
        exact ⟨_, _, rfl, rfl, ByT.of_own own9, ext_trans hwW (ext_trans hd he9)⟩

end Go.Proofs.Ytnganglmpcbcbaa
