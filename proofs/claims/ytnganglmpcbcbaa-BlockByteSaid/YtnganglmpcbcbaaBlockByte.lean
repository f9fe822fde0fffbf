/- BlockByte: the law's own walk. -/
import Derived.Test.YtnganglmpcbcbaaAlive2
namespace Go.Proofs.Ytnganglmpcbcbaa
open Go Go.RowKit

set_option maxRecDepth 100000 in
set_option maxHeartbeats 4000000 in
theorem blockByte_law (w : World) {A : Option Addr} {n c : Nat} {r : Rec} {k i y : Int} (h : By w w.heap.size A n c r.data) (_ : n + 4096 ≤ blim)
    (_ : -9223372036854775808 ≤ k ∧ k ≤ 9223372036854775807) (_ : -9223372036854775808 ≤ i ∧ i ≤ 9223372036854775807) (hy : 0 ≤ y ∧ y < 256) :
    Calls Try.prog 7 #[.agg #[.int .i64 r.kind, .int .i64 r.key, .int .i64 r.ver, .slice A n c], .int .i64 k, .int .i64 i, .int .u8 y] w fun e w' => e = .returned (.bool true) ∧ Ext w w' := by
  have hl := h.len
  go_enter Try.func7, Try.ntmps7
  go_wp2_with fail
  refine (alive2_w _).mono ?_
  rintro e w1 ⟨rfl, he1⟩
  have bx : Box w1 w.heap.size 32 #[.int .i64 r.kind, .int .i64 r.key, .int .i64 r.ver, .slice A n c] := (Box.new w _ _ rfl).ext he1
  have hd : Ext w w1 := ext_trans (ext_alloc _ _) he1
  have hlt := bx.lt
  obtain ⟨m0, m1, m2, m3⟩ := bx.cells4
  clear he1
  by_cases k0 : k < 0
  · have q1 : decide (k < 0) = true := by simpa using k0
    go_wp2
    go_ret
    exact ⟨rfl, hd⟩
  have q1 : decide (k < 0) = false := by simpa using k0
  by_cases k1 : 255 < k
  · have q2 : decide (255 < k) = true := by simpa using k1
    go_wp2
    go_ret
    exact ⟨rfl, hd⟩
  have q2 : decide (255 < k) = false := by simpa using k1
  have h1 := Sl.below h hd
  go_wp2_with fail
  refine (wrong_w (r := r) _ h1).mono ?_
  rintro e w2 ⟨rfl, he2⟩
  obtain ⟨x, hx⟩ : ∃ x, rWrong r = x := ⟨_, rfl⟩
  rw [hx]
  have hd := ext_trans hd he2
  by_cases x0 : x = 0
  · subst x0
    have Hx := Lib.hid hx
    obtain ⟨hl8, _, _, hv0, hv1⟩ := rWrong_zero' hx
    clear hx
    have bx := bx.ext he2
    obtain ⟨m0, m1, m2, m3⟩ := bx.cells4
    have h2 := Sl.below h hd
    have hz2 := hd.size
    go_wp2_with fail
    refine (bytes_w (r := r) (k := k) _ h2 (by omega) (by omega) hv0 (by omega)).mono ?_
    rintro e w3 ⟨v, rfl, hown, he3⟩
    have hd := ext_trans hd he3
    rcases hown.2 with ⟨_, h0⟩ | ⟨g, cap, cur, rfl, hbg, hg, hnc, hcm, hcs, htake⟩
    · omega
    have hs := Sl.of_own hown
    clear m0 m1 m2 m3
    by_cases i0 : i < 0
    · have q3 : decide (i < 0) = true := by simpa using i0
      go_wp2_with fail
      go_ret
      exact ⟨rfl, hd⟩
    have i1 : (0 : Int) ≤ i := by omega
    clear i0
    obtain ⟨m, rfl⟩ := Int.eq_ofNat_of_zero_le i1
    have q3 : decide ((m : Int) < 0) = false := by simp
    by_cases im : 16 ≤ m
    · have i2 : (16 : Int) ≤ (m : Int) := by omega
      go_wp2_with fail
      go_ret
      exact ⟨rfl, hd⟩
    have i3 : (m : Int) < 16 := by omega
    have q4 : decide ((16 : Int) ≤ (m : Int)) = false := by simp; omega
    have hfr := hown.frozenAt m
    obtain ⟨b', o', z, e', _, hcell, hz0, hz1, Hz⟩ := By.byte (l := rBytes r k) hs (k := m) (by omega)
    cases e'
    rw [Nat.zero_add] at hcell
    by_cases hzy : z = y
    · subst hzy
      go_wp2_with fail
      go_ret
      exact ⟨rfl, hd⟩
    · have hne : (z == y) = false := by simpa using hzy
      have hfound := Lib.hid (rByte_found (r := r) (k := k) (m := k) Hx.out m (b8 y) (by omega) (fun e => by
        apply hzy
        rw [Hz.out, e, b8_toNat]
        omega))
      have hst := (hown.stored m (.int .u8 y)).1
      have e1 : (u8s (rBytes r k)).set m (.int .u8 y) = u8s ((rBytes r k).set m (b8 y)) := by
        unfold u8s
        rw [List.map_set]
        congr 1
        unfold u8v
        rw [b8_toNat]
        congr 1
        omega
      rw [e1] at hst
      have Hst := Lib.hid hst
      clear e1 hst htake hcs hcm hnc hown hs hl
      go_wp2_with fail
      have hs4 := Sl.of_own Hst.out
      refine (read_w (k := k) _ hs4 (Nat.le_refl _)).mono ?_
      rintro e w5 ⟨v5, q, rfl, hq, hv5, he5⟩
      rw [hfound.out] at hq hv5
      obtain ⟨A5, c5, rfl, own5⟩ := hv5
      subst hq
      go_wp2
      go_ret
      refine ⟨rfl, ?_⟩
      have hz3 := hd.size
      have h6 := (hd.setCell (p := ⟨g, m, none⟩) (Nat.le_trans hz2 hbg) (.int .u8 y)).trans (he5.mono (by simp [World.setCell]; exact hz3))
      have hz6 := h6.size
      exact h6.alloc hz6 _
  · have q3 : (x != 0) = true := by simpa using x0
    go_wp2
    go_ret
    exact ⟨rfl, hd⟩

end Go.Proofs.Ytnganglmpcbcbaa
