/- The walks of chapter 1. -/
import Derived.Test.YtnganglmpcbcbaaProg
import Derived.Test.YtnganglmpcbcbaaLaws
import Derived.BigQuiet
import Derived.Deep.QuietTactic
namespace Go.Proofs.Ytnganglmpcbcbaa
open Go Go.RowKit

theorem ofInt_i64 (a : Nat) (ha : a < 9223372036854775808) : (BitVec.ofInt 64 (a : Int)).toNat = a := by
  rw [BitVec.ofInt_natCast, BitVec.toNat_ofNat]; exact Nat.mod_eq_of_lt (by omega)
theorem i64_or_nat (a b : Nat) (ha : a < 9223372036854775808) (hb : b < 9223372036854775808) : bits .or .i64 (a : Int) (b : Int) = ((a ||| b : Nat) : Int) := by
  have hx : a ||| b < 2 ^ 63 := Nat.or_lt_two_pow (by omega) (by omega)
  show IntKind.i64.wrap ((BitVec.ofInt 64 (a : Int) ||| BitVec.ofInt 64 (b : Int)).toNat : Int) = _
  rw [BitVec.toNat_or, ofInt_i64 a ha, ofInt_i64 b hb, IntKind.wrap_i64]
  omega

theorem two_cells (n : Int) (h0 : 0 ≤ n) (h1 : n < 65536) : #[Value.int IntKind.u8 (n / 256), Value.int IntKind.u8 (n % 256)] = (u8s (sTwo n)).toArray := by
  have e1 : ((b8 (n / 256)).toNat : Int) = n / 256 := by rw [b8_toNat]; omega
  have e2 : ((b8 n).toNat : Int) = n % 256 := by rw [b8_toNat]; omega
  simp [u8s, u8v, sTwo, e1, e2]

set_option maxHeartbeats 400000 in
theorem two_w (n : Int) (w : World) (h0 : 0 ≤ n) (h1 : n < 65536) :
    Calls Try.prog 26 #[.int .i64 n] w fun e w' => e = .returned (.slice (some ⟨w.heap.size, 0, none⟩) 2 2) ∧ w.alloc (.cells (u8s (sTwo n)).toArray 5) = w' := by
  go_enter Try.func26, Try.ntmps26
  go_wp2
  go_ret
  exact ⟨rfl, by rw [two_cells n h0 h1]⟩

theorem sOf_succ (l : List UInt8) (k : Nat) (h : k < l.length) : sOf (l.take (k + 1)) = sStep (sOf (l.take k)) (l.getD k 0) := by
  unfold sOf
  rw [List.take_succ_eq_append_getElem h, List.foldl_append]
  simp [List.getD_eq_getElem?_getD, List.getElem?_eq_getElem h]

set_option maxHeartbeats 400000 in
theorem of_w (A : Option Addr) (n c B : Nat) (l : List UInt8) (w : World) (h : By w B A n c l) :
    Calls Try.prog 27 #[.slice A n c] w fun e w' => e = .returned (.int .i64 (sOf l)) ∧ w = w' := by
  have hm := Sl.max h
  have hn := Sl.cap h
  unfold maxLen at hm
  have hl := h.len
  go_enter Try.func27, Try.ntmps27
  go_wp2
  go_loop [3, 8] (fun s i => ∃ k : Nat, k ≤ n ∧ i = .int .i64 k ∧ s = .int .i64 (sOf (l.take k))) (fun _ i => n - (intOf i).toNat)
  case atStart => exact ⟨0, Nat.zero_le _, rfl, rfl⟩
  case round =>
    obtain ⟨k, hk, rfl, rfl⟩ := hrel
    have hb := sOf_bd (l.take k)
    by_cases hlt : k < n
    · obtain ⟨b, o, x, rfl, hB, hck, h80, h81, Hb⟩ := h.byte hlt
      have Hx := Lib.hid (sOf_succ l k (by omega))
      clear hl
      go_wp2
      go_round
      case rel => exact ⟨k + 1, by omega, by go_num, by rw [Hx.out, sStep, ← Hb.out]⟩
      case measure => simp [intOf]; omega
    · go_wp2
      go_ret
      exact ⟨by rw [List.take_of_length_le (by omega)]; rfl, rfl⟩

set_option maxHeartbeats 400000 in
theorem refSum_w (A : Option Addr) (n c B : Nat) (l : List UInt8) (w : World) (h : By w B A n c l) :
    Calls Try.prog 28 #[.slice A n c] w fun e w' => e = .returned (.int .i64 (sOf l)) ∧ w = w' := by
  have hm := Sl.max h
  have hn := Sl.cap h
  unfold maxLen at hm
  have hl := h.len
  go_enter Try.func28, Try.ntmps28
  go_wp2
  go_loop [3, 7] (fun s i => ∃ k : Nat, k ≤ n ∧ i = .int .i64 k ∧ s = .int .i64 (sOf (l.take k))) (fun _ i => n - (intOf i).toNat)
  case atStart => exact ⟨0, Nat.zero_le _, rfl, rfl⟩
  case round =>
    obtain ⟨k, hk, rfl, rfl⟩ := hrel
    have hb := sOf_bd (l.take k)
    by_cases hlt : k < n
    · obtain ⟨b, o, x, rfl, hB, hck, h80, h81, Hb⟩ := h.byte hlt
      have Hx := Lib.hid (sOf_succ l k (by omega))
      clear hl
      go_wp2
      go_round
      case rel => exact ⟨k + 1, by omega, by go_num, by rw [Hx.out, sStep, ← Hb.out, Int.mul_comm]⟩
      case measure => simp [intOf]; omega
    · go_wp2
      go_ret
      exact ⟨by rw [List.take_of_length_le (by omega)]; rfl, rfl⟩

theorem num_bits (a b : Int) (ha : 0 ≤ a ∧ a < 256) (hb : 0 ≤ b ∧ b < 256) : bits BinOp.or IntKind.i64 (a * 256) b = a * 256 + b := by
  obtain ⟨x, rfl⟩ := Int.eq_ofNat_of_zero_le ha.1
  obtain ⟨y, rfl⟩ := Int.eq_ofNat_of_zero_le hb.1
  have hx : x < 256 := by omega
  have hy : y < 256 := by omega
  have := i64_or_nat (x * 256) y (by omega) (by omega)
  have e : ((x * 256 : Nat) : Int) = (x : Int) * 256 := by omega
  rw [e] at this
  rw [this]
  have h2 : x * 256 ||| y = x * 256 + y := by
    have := Nat.two_pow_add_eq_or_of_lt (i := 8) (b := y) (by omega) x
    rw [Nat.mul_comm x 256]
    exact this.symm
  rw [h2, Int.natCast_add, e]

set_option maxHeartbeats 400000 in
theorem number_w (a b : Int) (w : World) (ha : 0 ≤ a ∧ a < 256) (hb : 0 ≤ b ∧ b < 256) :
    Calls Try.prog 29 #[.int .u8 a, .int .u8 b] w fun e w' => e = .returned (.int .i64 (a * 256 + b)) ∧ w = w' := by
  go_enter Try.func29, Try.ntmps29
  go_wp2
  go_ret
  exact ⟨by rw [num_bits a b ha hb]; rfl, rfl⟩

theorem seal_cells (l : List UInt8) (S : Int) (h : sOf l = S) : [] ++ u8s l ++ u8s (sTwo S) = u8s (sSeal l) := by
  rw [← h, List.nil_append, ← u8s_append]; rfl

set_option maxHeartbeats 400000 in
theorem seal_w (A : Option Addr) (n c B : Nat) (l : List UInt8) (w : World) (h : By w B A n c l) (hB : B ≤ w.heap.size) (hn : n + 2 ≤ blim) :
    Calls Try.prog 30 #[.slice A n c] w fun e w' => ∃ v, e = .returned v ∧ w'.ownsRow w.heap.size 5 1 v (n + 2) (u8s (sSeal l)) ∧ Ext w w' := by
  have hl := h.len
  have hbd := sOf_bd l
  generalize hS : sOf l = S at hbd
  have HS := Lib.hid hS
  clear hS
  go_enter Try.func30, Try.ntmps30
  go_wp2_with (first
    | (at_builtin; refine app_u8 rfl (.const (.slice none 0 0)) (.tmp 3) rfl w.heap.size _ 0 [] rfl (own_nil _ _ _ _) B A n c (u8s l) rfl h (u8s_one _) (by omega) (Nat.le_refl _) ?_; intro v1 w1 hown1 hg1 hb1 hat1)
    | (go_at_call 27; refine (of_w _ _ _ _ l _ (Sl.below h (hb1.mono hB))).mono ?_; rintro e w' ⟨rfl, rfl⟩; rw [HS.out])
    | (go_at_call 26; refine (two_w S _ hbd.1 (by omega)).mono ?_; rintro e w' ⟨rfl, rfl⟩)
    | (at_builtin; refine app_u8 rfl (.tmp 4) (.tmp 7) rfl w.heap.size v1 (0 + n) _ rfl (hown1.alloc _) (w1.heap.size + 1) _ 2 2 (u8s (sTwo S)) rfl (Sl.new _ _ _ _ 1 2 (by simp [sTwo, u8s]) (by unfold maxLen; omega) (Nat.lt_succ_self _)) (u8s_one _) (by omega) (by rw [size_alloc]; have := hb1.size; omega) ?_; intro v2 w2 hown2 hg2 hb2 hat2))
  go_ret
  rw [Nat.zero_add, seal_cells _ _ HS.out] at hown2
  exact ⟨v2, rfl, hown2, (hb1.trans ((ext_alloc _ _).mono hb1.size)).trans hb2⟩

theorem refSeal_cells (l : List UInt8) (S : Int) (h : sOf l = S) (h0 : 0 ≤ S ∧ S < 65521) : [] ++ u8s l ++ [Value.int .u8 (S / 256), Value.int .u8 (S % 256)] = u8s (sSeal l) := by
  rw [← seal_cells l S h]
  congr 1
  have e1 : ((b8 (S / 256)).toNat : Int) = S / 256 := by rw [b8_toNat]; omega
  have e2 : ((b8 S).toNat : Int) = S % 256 := by rw [b8_toNat]; omega
  simp [u8s, u8v, sTwo, e1, e2]

set_option maxHeartbeats 400000 in
theorem refSeal_w (A : Option Addr) (n c B : Nat) (l : List UInt8) (w : World) (h : By w B A n c l) (hB : B ≤ w.heap.size) (hn : n + 2 ≤ blim) :
    Calls Try.prog 31 #[.slice A n c] w fun e w' => ∃ v, e = .returned v ∧ w'.ownsRow w.heap.size 5 1 v (n + 2) (u8s (sSeal l)) ∧ Ext w w' := by
  have hl := h.len
  have hbd := sOf_bd l
  generalize hS : sOf l = S at hbd
  have HS := Lib.hid hS
  clear hS
  go_enter Try.func31, Try.ntmps31
  go_wp2_with (first
    | (go_at_call 28; refine (refSum_w _ _ _ _ l _ h).mono ?_; rintro e w' ⟨rfl, rfl⟩; rw [HS.out])
    | (at_builtin; refine app_u8 rfl (.tmp 6) (.tmp 7) rfl w.heap.size _ 0 [] rfl (own_lit _ [] _ (Nat.le_refl _) rfl (by unfold maxLen; omega)) B A n c (u8s l) rfl (Sl.below h ((ext_alloc _ _).mono hB)) (u8s_one _) (by omega) (by rw [size_alloc]; omega) ?_; intro v1 w1 hown1 hg1 hb1 hat1)
    | (at_builtin; refine app_u8 rfl (.tmp 8) (.tmp 15) rfl w.heap.size v1 (0 + n) _ rfl (hown1.alloc _) (w1.heap.size + 1) _ 2 2 [.int .u8 (S / 256), .int .u8 (S % 256)] rfl (Sl.new _ _ _ _ 1 2 rfl (by unfold maxLen; omega) (Nat.lt_succ_self _)) (by intro u hu; simp at hu; rcases hu with rfl | rfl <;> rfl) (by omega) (by rw [size_alloc]; have := hb1.size; rw [size_alloc] at this; omega) ?_; intro v2 w2 hown2 hg2 hb2 hat2))
  go_ret
  rw [Nat.zero_add, refSeal_cells _ _ HS.out hbd] at hown2
  refine ⟨v2, rfl, hown2, (((ext_alloc _ _).trans hb1).trans ((ext_alloc _ _).mono ?_)).trans hb2⟩
  have := hb1.size
  rw [size_alloc] at this
  omega

end Go.Proofs.Ytnganglmpcbcbaa
