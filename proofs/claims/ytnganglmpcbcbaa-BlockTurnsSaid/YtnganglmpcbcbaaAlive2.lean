/- The closed fact of chapter 2. -/
import Derived.Test.YtnganglmpcbcbaaRead
import Derived.Test.YtnganglmpcbcbaaTurn
namespace Go.Proofs.Ytnganglmpcbcbaa
open Go Go.RowKit

theorem Box.cells4 {w : World} {g : Nat} {t : TypeId} {a b c d : Value} (h : Box w g t #[a, b, c, d]) : w.cell? ⟨g, 0, none⟩ = some a ∧ w.cell? ⟨g, 1, none⟩ = some b ∧ w.cell? ⟨g, 2, none⟩ = some c ∧ w.cell? ⟨g, 3, none⟩ = some d := ⟨h.cell 0 rfl, h.cell 1 rfl, h.cell 2 rfl, h.cell 3 rfl⟩

theorem field_data (w : World) (a b c : Int) (A : Option Addr) (n cp : Nat) : (Instr.field 32 (.agg #[.int .i64 a, .int .i64 b, .int .i64 c, .slice A n cp]) 3).run Try.prog w = .ok (.slice A n cp) w := by kernel_rfl

set_option maxRecDepth 100000 in
set_option maxHeartbeats 4000000 in
theorem alive2_w (w : World) : Calls Try.prog 44 #[] w fun e w' => e = .returned (.bool true) ∧ Ext w w' := by
  have kc := fun (w : World) (C : Array Value) (n c : Nat) => Lib.run_convert_bytes_const (P := Try.prog) w 22 5 C n c Try.underlying22 Try.underlying5
  have hw0 := Lib.hid (show rWrong ⟨2, 7, 300, [97, 98, 99]⟩ = 0 from by decide)
  have ht1 := Lib.hid (turn1 (r := ⟨2, 7, 300, [97, 98, 99]⟩) (k := 5) (by decide) (by decide) (by decide))
  have ht2 := Lib.hid (turn2 (r := ⟨2, 7, 300, [97, 98, 99]⟩) (k := 5) (m := 6) (by decide) (by decide) (by decide) (by decide))
  have hsm := Lib.hid ((rSame_iff ⟨2, 7, 300, [97, 98, 99]⟩ ⟨2, 7, 300, [97, 98, 99]⟩).2 rfl)
  have hfd := field_data
  go_enter Try.func44, Try.ntmps44
  go_wp2_with fail
  obtain ⟨W, hW⟩ : ∃ W, W = (w.alloc (.cells #[.int .u8 97, .int .u8 98, .int .u8 99] 5 (3, 4))).alloc (.cells #[.int .i64 2, .int .i64 7, .int .i64 300, .slice (some ⟨w.heap.size, 0, none⟩) 3 3] 32) := ⟨_, rfl⟩
  rw [← hW]
  have hb : By W (w.heap.size + 1) (some ⟨w.heap.size, 0, none⟩) 3 3 [97, 98, 99] := by
    rw [hW]
    exact Sl.alloc (Sl.new w [.int .u8 97, .int .u8 98, .int .u8 99] 5 (3, 4) 1 3 rfl (by unfold maxLen; omega) (Nat.lt_succ_self _)) (by simp) _
  have bx : Box W (w.heap.size + 1) 32 #[.int .i64 2, .int .i64 7, .int .i64 300, .slice (some ⟨w.heap.size, 0, none⟩) 3 3] := by rw [hW]; exact Box.new _ _ _ (size_alloc _ _).symm
  have hwW : Ext w W := by rw [hW]; exact ext_trans (ext_alloc _ _) (ext_alloc _ _)
  have hzW : W.heap.size = w.heap.size + 1 + 1 := by rw [hW]; simp
  clear hW
  refine (bytes_w (r := ⟨2, 7, 300, [97, 98, 99]⟩) (k := 5) _ hb (by omega) (by omega) (by decide) (by decide)).mono ?_
  rintro e w1 ⟨v, rfl, own1, he1⟩
  obtain ⟨A1, c1, rfl, hs1⟩ := own_shape own1
  go_wp2_with fail
  refine (read_w (l := rBytes ⟨2, 7, 300, [97, 98, 99]⟩ 5) (k := 5) _ hs1 (Nat.le_refl _)).mono ?_
  rintro e w2 ⟨v2, q, rfl, hq, hv2, he2⟩
  rw [ht1.out] at hq hv2
  obtain ⟨A2, c2, rfl, own2⟩ := hv2
  subst hq
  go_wp2_with fail
  obtain ⟨X, hX⟩ : ∃ X, X = w2.alloc (.cells #[.int .i64 2, .int .i64 7, .int .i64 300, .slice A2 3 c2] 32) := ⟨_, rfl⟩
  rw [← hX]
  have b3 : Box X w2.heap.size 32 #[.int .i64 2, .int .i64 7, .int .i64 300, .slice A2 3 c2] := by rw [hX]; exact Box.new _ _ _ rfl
  have heX : Ext w2 X := by rw [hX]; exact ext_alloc _ _
  clear hX
  have hs1 := Sl.below (Sl.below hs1 he2) (heX.mono he2.size)
  have own2 := own_ext own2 heX
  refine (read_w (l := rBytes ⟨2, 7, 300, [97, 98, 99]⟩ 5) (k := 6) _ hs1 (by have := he2.size; have := heX.size; omega)).mono ?_
  rintro e w3 ⟨v3, q, rfl, hq, hv3, he3⟩
  rw [ht2.out] at hq hv3
  obtain ⟨A3, c3, rfl, own3⟩ := hv3
  subst hq
  have own2 := own_ext own2 he3
  have b3 := b3.ext he3
  have hd : Below W.heap.size W w3 := ext_trans (ext_trans (ext_trans he1 he2) heX) he3
  have b1 := bx.below hd (by omega)
  have hb3 := Sl.below hb (hd.mono (by omega))
  have hlt1 := b1.lt
  have hlt3 := b3.lt
  obtain ⟨m0, m1, m2, m3⟩ := b1.cells4
  obtain ⟨n0, n1, n2, n3⟩ := b3.cells4
  have hzd := hd.size
  go_wp2_with fail
  obtain ⟨Y, hY⟩ : ∃ Y, Y = w3.alloc (.cells #[.int .i64 rZero.kind, .int .i64 rZero.key, .int .i64 rZero.ver, .slice A3 rZero.data.length c3] 32) := ⟨_, rfl⟩
  rw [← hY]
  have heY : Ext w3 Y := by rw [hY]; exact ext_alloc _ _
  clear hY m0 m1 m2 m3 n0 n1 n2 n3
  have hd := ext_trans hd heY
  have hbY := Sl.below hb3 (heY.mono (by omega))
  have own2 := own_ext own2 heY
  have hzY := hd.size
  refine (same_w (r := ⟨2, 7, 300, [97, 98, 99]⟩) (s := ⟨2, 7, 300, [97, 98, 99]⟩) _ hbY (Sl.of_own own2) (by omega) (Nat.le_refl _)).mono ?_
  rintro e w5 ⟨rfl, he5⟩
  rw [hsm.out]
  have hd := ext_trans hd he5
  have hb5 := Sl.below hbY (he5.mono (by omega))
  have hz5 := hd.size
  obtain ⟨m0, m1, m2, m3⟩ := (b1.below (heY.trans (he5.mono heY.size)) hlt1).cells4
  go_wp2_with fail
  refine (wrong_w (r := ⟨2, 7, 300, [97, 98, 99]⟩) _ hb5).mono ?_
  rintro e w6 ⟨rfl, he6⟩
  rw [hw0.out]
  have hd := ext_trans hd he6
  have hb6 := Sl.below hb5 (he6.mono (by omega))
  have hz6 := hd.size
  obtain ⟨m0, m1, m2, m3⟩ := (b1.below ((heY.trans (he5.mono heY.size)).trans (he6.mono (by have := heY.size; have := he5.size; omega))) hlt1).cells4
  go_wp2_with fail
  refine (own_w (r := ⟨2, 7, 300, [97, 98, 99]⟩) _ hb6 (by omega) (by rw [blim_def]; omega)).mono ?_
  rintro e w7 ⟨v7, rfl, ⟨A7, c7, rfl, own7⟩, he7⟩
  have hd := ext_trans hd he7
  go_wp2
  go_ret
  exact ⟨rfl, hwW.trans (hd.mono (by omega))⟩

end Go.Proofs.Ytnganglmpcbcbaa
