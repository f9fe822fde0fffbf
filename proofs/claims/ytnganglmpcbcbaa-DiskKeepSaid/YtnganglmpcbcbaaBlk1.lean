/- Walks: slices.Equal and slices.Clone of bytes; records' Same, Own, Wrong, and the document's. -/
import Derived.Test.YtnganglmpcbcbaaSum2
import Derived.Test.YtnganglmpcbcbaaRec
import Derived.Lib.SliceRun
namespace Go.Proofs.Ytnganglmpcbcbaa
open Go Go.RowKit

theorem take_eq_succ (l l' : List UInt8) (k : Nat) (h : l.take k = l'.take k) (hk : k < l.length) (hk' : k < l'.length) (he : l.getD k 0 = l'.getD k 0) : l.take (k + 1) = l'.take (k + 1) := by
  rw [List.take_succ_eq_append_getElem hk, List.take_succ_eq_append_getElem hk', h]
  simp only [List.getD_eq_getElem?_getD, List.getElem?_eq_getElem hk, List.getElem?_eq_getElem hk', Option.getD_some] at he
  rw [he]
theorem byte_ne {x y : Int} {a b : UInt8} (hx : x = (a.toNat : Int)) (hy : y = (b.toNat : Int)) (h : x ≠ y) : a ≠ b := by
  rintro rfl; exact h (hx.trans hy.symm)
theorem byte_eq {x : Int} {a b : UInt8} (hx : x = (a.toNat : Int)) (hy : x = (b.toNat : Int)) : a = b := by
  apply UInt8.toNat_inj.1
  omega

set_option maxRecDepth 100000 in
set_option maxHeartbeats 400000 in
theorem equal_w {A A' : Option Addr} {n c n' c' B B' : Nat} {l l' : List UInt8} (w : World) (h : By w B A n c l) (h' : By w B' A' n' c' l') :
    Calls Try.prog 110 #[.slice A n c, .slice A' n' c'] w fun e w' => e = .returned (.bool (l == l')) ∧ ∃ m, w' = w.drewN m := by
  have hl := h.len
  have hl' := h'.len
  by_cases hn : n = n'
  · subst hn
    have hm := Sl.max h
    have hc := Sl.cap h
    unfold maxLen at hm
    have hll : l.length = l'.length := by omega
    have Hll := Lib.hid hll
    have Hl := Lib.hid hl
    clear hl hl' hll
    go_enter Try.func110, Try.ntmps110
    go_wp2
    go_loopw [5, 13] (fun _ i wr => ∃ k : Nat, k ≤ n ∧ i = .int .i64 k ∧ Hid (l.take k = l'.take k) ∧ ∃ m, wr = w.drewN m) (fun _ i _ => n - (intOf i).toNat)
    case atStart => exact ⟨0, Nat.zero_le _, rfl, rfl, 0, rfl⟩
    case round =>
      obtain ⟨k, hk, rfl, ht, q, rfl⟩ := hrel
      by_cases hlt : k < n
      · obtain ⟨b, o, x, rfl, _, hx, hx0, hx1, Hx⟩ := h.byte hlt
        obtain ⟨b', o', y, rfl, _, hy, hy0, hy1, Hy⟩ := h'.byte hlt
        have i0 : (0 : Int) ≤ (k : Int) := by omega
        have i1 : (k : Int) < (n : Int) := by omega
        by_cases hxy : x = y
        · subst hxy
          have hs : Hid (l.take (k + 1) = l'.take (k + 1)) := take_eq_succ l l' k ht.out (by have := Hl.out; omega) (by have := Hl.out; have := Hll.out; omega) (byte_eq Hx.out Hy.out)
          go_wp2_with fail
          go_quiet (fail)
          go_wp2
          go_roundw
          case rel => exact ⟨k + 1, by omega, by go_num, hs, _, rfl⟩
          case measure => simp [intOf]; omega
        · have hne : (x != y) = true := by simpa using hxy
          have hlne : (l == l') = false := by
            rw [beq_eq_false_iff_ne]
            rintro rfl
            exact hxy (Hx.out.trans Hy.out.symm)
          have Hne := Lib.hid hlne
          clear hlne hxy
          go_wp2_with fail
          go_quiet (fail)
          go_wp2
          go_ret
          exact ⟨by rw [Hne.out]; rfl, q + nq, World.drewN_drewN ..⟩
      · have hlle : (l == l') = true := by
          have := ht.out
          rw [List.take_of_length_le (by have := Hl.out; omega), List.take_of_length_le (by have := Hl.out; have := Hll.out; omega)] at this
          rw [this]
          simp
        have Hlle := Lib.hid hlle
        clear hlle
        go_wp2
        go_ret
        exact ⟨by rw [Hlle.out]; rfl, _, rfl⟩
  · have hne : ((n : Int) != (n' : Int)) = true := by rw [bne_iff_ne]; omega
    have hlne : (l == l') = false := by
      rw [beq_eq_false_iff_ne]
      rintro rfl
      omega
    have Hne := Lib.hid hlne
    clear hlne hl hl' hn
    go_enter Try.func110, Try.ntmps110
    go_wp2
    go_ret
    exact ⟨by rw [Hne.out]; rfl, 0, rfl⟩

set_option maxHeartbeats 400000 in
theorem clone_w {A : Option Addr} {n c B : Nat} {l : List UInt8} (w : World) (h : By w B A n c l) (hB : B ≤ w.heap.size) (hn : n ≤ blim) :
    Calls Try.prog 111 #[.slice A n c] w fun e w' => ∃ v, e = .returned v ∧ w'.ownsRow w.heap.size 5 1 v n (u8s l) ∧ Ext w w' := by
  have qT : ∀ (w : World) (a : Option Addr) (n c n' c' : Nat), (binOp .eql 22 (.slice a n c) (.slice none n' c')).run Try.prog w = .ok (.bool a.isNone) w := fun w a n c n' c' => Lib.run_eql_slice_nil w _ _ a n c n' c' Try.underlying22
  have hl := h.len
  cases A with
  | none =>
    have hn0 : n = 0 := by
      rcases Nat.eq_zero_or_pos n with h0 | h0
      · exact h0
      · obtain ⟨b, o, e, _⟩ := Sl.form h h0 (by decide); cases e
    subst hn0
    have hl0 : l = [] := List.eq_nil_of_length_eq_zero hl
    subst hl0
    clear hl
    go_enter Try.func111, Try.ntmps111
    go_wp2
    go_ret
    exact ⟨_, rfl, own_nil _ _ _ _, Below.refl _ _⟩
  | some ad =>
    clear hl
    go_enter Try.func111, Try.ntmps111
    go_wp2_with (at_builtin; refine app_u8 rfl (.tmp 5) (.tmp 6) rfl w.heap.size _ 0 [] rfl (own_lit _ [] _ (Nat.le_refl _) rfl (by unfold maxLen; omega)) B _ n c (u8s l) rfl (Sl.below h ((ext_alloc _ _).mono hB)) (u8s_one _) (by omega) (by rw [size_alloc]; omega) ?_; intro v1 w1 hown1 hg1 hb1 hat1)
    go_ret
    rw [Nat.zero_add, List.nil_append] at hown1
    exact ⟨v1, rfl, hown1, (ext_alloc _ _).trans hb1⟩

/-! ### Wrong -/
/-- The ways through Wrong, each with the tests' answers in the walk's own words. -/
theorem wrong_ways (P : Prop) (r : Rec) (n : Nat) (hl : r.data.length = n)
    (a1 : decide (r.kind < 1) = true → Hid (rWrong r = 1) → P)
    (a2 : decide (r.kind < 1) = false → decide (3 < r.kind) = true → Hid (rWrong r = 1) → P)
    (a3 : decide (r.kind < 1) = false → decide (3 < r.kind) = false → (r.kind == 1) = true → r.kind = 1 → (r.key != 0) = true → (decide (r.key < 0) = true ∨ decide (r.key < 0) = false ∧ decide (0 < r.key) = true) → Hid (rWrong r = 3) → P)
    (a4 : decide (r.kind < 1) = false → decide (3 < r.kind) = false → (r.kind == 1) = true → r.kind = 1 → r.key = 0 → (r.ver != 0) = true → (decide (r.ver < 0) = true ∨ decide (r.ver < 0) = false ∧ decide (0 < r.ver) = true) → Hid (rWrong r = 3) → P)
    (a5 : decide (r.kind < 1) = false → decide (3 < r.kind) = false → (r.kind == 1) = true → r.kind = 1 → r.key = 0 → r.ver = 0 → (decide ((8 : Int) < (n : Int)) = true ∨ decide ((8 : Int) < (n : Int)) = false ∧ decide ((0 : Int) < (n : Int)) = true ∧ ((n : Int) != 0) = true) → Hid (rWrong r = 4) → P)
    (a6 : decide (r.kind < 1) = false → decide (3 < r.kind) = false → (r.kind == 1) = true → r.kind = 1 → r.key = 0 → r.ver = 0 → n = 0 → Hid (rWrong r = 0) → P)
    (a7 : decide (r.kind < 1) = false → decide (3 < r.kind) = false → (r.kind == 1) = false → (r.kind != 1) = true →
      (decide (r.key < 1) = true ∨ decide (r.key < 1) = false ∧ (decide (255 < r.key) = true ∨ decide (255 < r.key) = false ∧ (decide (r.ver < 1) = true ∨ decide (r.ver < 1) = false ∧ decide (60000 < r.ver) = true))) → Hid (rWrong r = 3) → P)
    (a8 : decide (r.kind < 1) = false → decide (3 < r.kind) = false → (r.kind == 1) = false → (r.kind != 1) = true →
      decide (r.key < 1) = false → decide (255 < r.key) = false → decide (r.ver < 1) = false → decide (60000 < r.ver) = false →
      (decide ((8 : Int) < (n : Int)) = true ∨ decide ((8 : Int) < (n : Int)) = false ∧ (r.kind != 2) = true ∧ decide ((0 : Int) < (n : Int)) = true ∧ ((n : Int) != 0) = true) → Hid (rWrong r = 4) → P)
    (a9 : decide (r.kind < 1) = false → decide (3 < r.kind) = false → (r.kind == 1) = false → (r.kind != 1) = true →
      decide (r.key < 1) = false → decide (255 < r.key) = false → decide (r.ver < 1) = false → decide (60000 < r.ver) = false →
      decide ((8 : Int) < (n : Int)) = false → ((r.kind != 2) = false ∨ (r.kind != 2) = true ∧ decide ((0 : Int) < (n : Int)) = false ∧ ((n : Int) != 0) = false) → Hid (rWrong r = 0) → P) : P := by
  subst hl
  have H : ∀ k, rWrong r = k → Hid (rWrong r = k) := fun _ h => h
  by_cases k1 : r.kind < 1
  · exact a1 (by simpa using k1) (H _ (by unfold rWrong; rw [if_pos (.inl k1)]))
  by_cases k2 : 3 < r.kind
  · exact a2 (by simpa using k1) (by simpa using k2) (H _ (by unfold rWrong; rw [if_pos (.inr k2)]))
  have K1 : decide (r.kind < 1) = false := by simpa using k1
  have K2 : decide (3 < r.kind) = false := by simpa using k2
  have kk : ¬ (r.kind < 1 ∨ 3 < r.kind) := by omega
  by_cases k3 : r.kind = 1
  · have K3 : (r.kind == 1) = true := by simpa using k3
    by_cases y0 : r.key = 0
    · by_cases v0 : r.ver = 0
      · by_cases n0 : r.data.length = 0
        · exact a6 K1 K2 K3 k3 y0 v0 n0 (H _ (by unfold rWrong; rw [if_neg kk, if_neg (by omega), if_neg (by omega), if_neg (by omega)]))
        · refine a5 K1 K2 K3 k3 y0 v0 ?_ (H _ (by unfold rWrong; rw [if_neg kk, if_neg (by omega), if_neg (by omega), if_pos (by omega)]))
          simp only [decide_eq_true_eq, decide_eq_false_iff_not, bne_iff_ne]
          omega
      · refine a4 K1 K2 K3 k3 y0 (by simpa using v0) ?_ (H _ (by unfold rWrong; rw [if_neg kk, if_pos ⟨k3, .inr v0⟩]))
        simp only [decide_eq_true_eq, decide_eq_false_iff_not]
        omega
    · refine a3 K1 K2 K3 k3 (by simpa using y0) ?_ (H _ (by unfold rWrong; rw [if_neg kk, if_pos ⟨k3, .inl y0⟩]))
      simp only [decide_eq_true_eq, decide_eq_false_iff_not]
      omega
  · have K3 : (r.kind == 1) = false := by simpa using k3
    have K3' : (r.kind != 1) = true := by simpa using k3
    by_cases hb : r.key < 1 ∨ 255 < r.key ∨ r.ver < 1 ∨ 60000 < r.ver
    · refine a7 K1 K2 K3 K3' ?_ (H _ (by unfold rWrong; rw [if_neg kk, if_neg (by omega), if_pos ⟨k3, hb⟩]))
      simp only [decide_eq_true_eq, decide_eq_false_iff_not]
      omega
    · have b1 : decide (r.key < 1) = false := by simp; omega
      have b2 : decide (255 < r.key) = false := by simp; omega
      have b3 : decide (r.ver < 1) = false := by simp; omega
      have b4 : decide (60000 < r.ver) = false := by simp; omega
      by_cases hm : 8 < r.data.length ∨ r.kind ≠ 2 ∧ 0 < r.data.length
      · refine a8 K1 K2 K3 K3' b1 b2 b3 b4 ?_ (H _ (by unfold rWrong; rw [if_neg kk, if_neg (by omega), if_neg (by omega), if_pos hm]))
        simp only [decide_eq_true_eq, decide_eq_false_iff_not, bne_iff_ne]
        omega
      · refine a9 K1 K2 K3 K3' b1 b2 b3 b4 (by simp; omega) ?_ (H _ (by unfold rWrong; rw [if_neg kk, if_neg (by omega), if_neg (by omega), if_neg hm]))
        simp only [decide_eq_false_iff_not, bne_iff_ne, bne_eq_false_iff_eq]
        omega

set_option maxRecDepth 100000 in
set_option maxHeartbeats 2000000 in
theorem wrong_w {A : Option Addr} {n c B : Nat} {r : Rec} (w : World) (h : By w B A n c r.data) :
    Calls Try.prog 37 #[.agg #[.int .i64 r.kind, .int .i64 r.key, .int .i64 r.ver, .slice A n c]] w fun e w' => e = .returned (.int .i64 (rWrong r)) ∧ Ext w w' := by
  have hl := h.len
  refine wrong_ways _ r n hl ?_ ?_ ?_ ?_ ?_ ?_ ?_ ?_ ?_
  · intro q1 HW
    clear hl
    go_enter Try.func37, Try.ntmps37
    go_wp2
    go_ret
    exact ⟨by rw [HW.out]; rfl, ext_alloc _ _⟩
  · intro q1 q2 HW
    clear hl
    go_enter Try.func37, Try.ntmps37
    go_wp2
    go_ret
    exact ⟨by rw [HW.out]; rfl, ext_alloc _ _⟩
  · intro q1 q2 q3 k3 q4 _ HW
    have q5 : (r.kind != 1) = false := by simp [k3]
    clear hl k3
    go_enter Try.func37, Try.ntmps37
    go_wp2
    go_ret
    exact ⟨by rw [HW.out]; rfl, ext_alloc _ _⟩
  · intro q1 q2 q3 k3 y0 q4 _ HW
    have q5 : (r.kind != 1) = false := by simp [k3]
    have q6 : (r.key != 0) = false := by simp [y0]
    clear hl k3 y0
    go_enter Try.func37, Try.ntmps37
    go_wp2
    go_ret
    exact ⟨by rw [HW.out]; rfl, ext_alloc _ _⟩
  · intro q1 q2 q3 k3 y0 v0 hd HW
    have q5 : (r.kind != 1) = false := by simp [k3]
    have q6 : (r.key != 0) = false := by simp [y0]
    have q7 : (r.ver != 0) = false := by simp [v0]
    have q8 : (r.kind != 2) = true := by simp [k3]
    have q9 : decide (r.key < 0) = false := by simp [y0]
    have q10 : decide (0 < r.key) = false := by simp [y0]
    have q11 : decide (r.ver < 0) = false := by simp [v0]
    have q12 : decide (0 < r.ver) = false := by simp [v0]
    clear hl k3 y0 v0
    rcases hd with d1 | ⟨d1, d2, d3⟩
    · skip
      go_enter Try.func37, Try.ntmps37
      go_wp2
      go_ret
      exact ⟨by rw [HW.out]; rfl, ext_alloc _ _⟩
    · have d5 : 0 < n := by simpa using d2
      go_enter Try.func37, Try.ntmps37
      go_wp2
      go_ret
      exact ⟨by rw [HW.out]; rfl, ext_alloc _ _⟩
  · intro q1 q2 q3 k3 y0 v0 n0 HW
    have q5 : (r.kind != 1) = false := by simp [k3]
    have q6 : (r.key != 0) = false := by simp [y0]
    have q7 : (r.ver != 0) = false := by simp [v0]
    have q8 : (r.kind != 2) = true := by simp [k3]
    have q9 : decide (r.key < 0) = false := by simp [y0]
    have q10 : decide (0 < r.key) = false := by simp [y0]
    have q11 : decide (r.ver < 0) = false := by simp [v0]
    have q12 : decide (0 < r.ver) = false := by simp [v0]
    clear hl k3 y0 v0
    subst n0
    go_enter Try.func37, Try.ntmps37
    go_wp2
    go_ret
    exact ⟨by rw [HW.out]; rfl, ext_alloc _ _⟩
  · intro q1 q2 q3 q4 hd HW
    clear hl
    rcases hd with d1 | ⟨d1, d2 | ⟨d2, d3 | ⟨d3, d4⟩⟩⟩
    · skip
      go_enter Try.func37, Try.ntmps37
      go_wp2
      go_ret
      exact ⟨by rw [HW.out]; rfl, ext_alloc _ _⟩
    · skip
      go_enter Try.func37, Try.ntmps37
      go_wp2
      go_ret
      exact ⟨by rw [HW.out]; rfl, ext_alloc _ _⟩
    · skip
      go_enter Try.func37, Try.ntmps37
      go_wp2
      go_ret
      exact ⟨by rw [HW.out]; rfl, ext_alloc _ _⟩
    · skip
      go_enter Try.func37, Try.ntmps37
      go_wp2
      go_ret
      exact ⟨by rw [HW.out]; rfl, ext_alloc _ _⟩
  · intro q1 q2 q3 q4 q5 q6 q7 q8 hd HW
    clear hl
    rcases hd with d1 | ⟨d1, d2, d3, d4⟩
    · skip
      go_enter Try.func37, Try.ntmps37
      go_wp2
      go_ret
      exact ⟨by rw [HW.out]; rfl, ext_alloc _ _⟩
    · have d5 : 0 < n := by simpa using d3
      go_enter Try.func37, Try.ntmps37
      go_wp2
      go_ret
      exact ⟨by rw [HW.out]; rfl, ext_alloc _ _⟩
  · intro q1 q2 q3 q4 q5 q6 q7 q8 d1 hd HW
    clear hl
    rcases hd with d2 | ⟨d2, d3, d4⟩
    · skip
      go_enter Try.func37, Try.ntmps37
      go_wp2
      go_ret
      exact ⟨by rw [HW.out]; rfl, ext_alloc _ _⟩
    · have d5 : ¬ 0 < n := by simpa using d3
      go_enter Try.func37, Try.ntmps37
      go_wp2
      go_ret
      exact ⟨by rw [HW.out]; rfl, ext_alloc _ _⟩

set_option maxRecDepth 100000 in
set_option maxHeartbeats 2000000 in
theorem refWrong_w {A : Option Addr} {n c B : Nat} {r : Rec} (w : World) (h : By w B A n c r.data) :
    Calls Try.prog 38 #[.agg #[.int .i64 r.kind, .int .i64 r.key, .int .i64 r.ver, .slice A n c]] w fun e w' => e = .returned (.int .i64 (rWrong r)) ∧ Ext w w' := by
  have hl := h.len
  refine wrong_ways _ r n hl ?_ ?_ ?_ ?_ ?_ ?_ ?_ ?_ ?_
  · intro q1 HW
    clear hl
    go_enter Try.func38, Try.ntmps38
    go_wp2
    go_ret
    exact ⟨by rw [HW.out]; rfl, ext_alloc _ _⟩
  · intro q1 q2 HW
    clear hl
    go_enter Try.func38, Try.ntmps38
    go_wp2
    go_ret
    exact ⟨by rw [HW.out]; rfl, ext_alloc _ _⟩
  · intro q1 q2 q3 k3 q4 hd HW
    have q5 : (r.kind != 1) = false := by simp [k3]
    clear hl k3
    rcases hd with d1 | ⟨d1, d2⟩
    · skip
      go_enter Try.func38, Try.ntmps38
      go_wp2
      go_ret
      exact ⟨by rw [HW.out]; rfl, ext_alloc _ _⟩
    · skip
      go_enter Try.func38, Try.ntmps38
      go_wp2
      go_ret
      exact ⟨by rw [HW.out]; rfl, ext_alloc _ _⟩
  · intro q1 q2 q3 k3 y0 q4 hd HW
    have q5 : (r.kind != 1) = false := by simp [k3]
    have q6 : (r.key != 0) = false := by simp [y0]
    have q9 : decide (r.key < 0) = false := by simp [y0]
    have q10 : decide (0 < r.key) = false := by simp [y0]
    clear hl k3 y0
    rcases hd with d1 | ⟨d1, d2⟩
    · skip
      go_enter Try.func38, Try.ntmps38
      go_wp2
      go_ret
      exact ⟨by rw [HW.out]; rfl, ext_alloc _ _⟩
    · skip
      go_enter Try.func38, Try.ntmps38
      go_wp2
      go_ret
      exact ⟨by rw [HW.out]; rfl, ext_alloc _ _⟩
  · intro q1 q2 q3 k3 y0 v0 hd HW
    have q5 : (r.kind != 1) = false := by simp [k3]
    have q6 : (r.key != 0) = false := by simp [y0]
    have q7 : (r.ver != 0) = false := by simp [v0]
    have q8 : (r.kind != 2) = true := by simp [k3]
    have q9 : decide (r.key < 0) = false := by simp [y0]
    have q10 : decide (0 < r.key) = false := by simp [y0]
    have q11 : decide (r.ver < 0) = false := by simp [v0]
    have q12 : decide (0 < r.ver) = false := by simp [v0]
    clear hl k3 y0 v0
    rcases hd with d1 | ⟨d1, d2, d3⟩
    · skip
      go_enter Try.func38, Try.ntmps38
      go_wp2
      go_ret
      exact ⟨by rw [HW.out]; rfl, ext_alloc _ _⟩
    · have d5 : 0 < n := by simpa using d2
      go_enter Try.func38, Try.ntmps38
      go_wp2
      go_ret
      exact ⟨by rw [HW.out]; rfl, ext_alloc _ _⟩
  · intro q1 q2 q3 k3 y0 v0 n0 HW
    have q5 : (r.kind != 1) = false := by simp [k3]
    have q6 : (r.key != 0) = false := by simp [y0]
    have q7 : (r.ver != 0) = false := by simp [v0]
    have q8 : (r.kind != 2) = true := by simp [k3]
    have q9 : decide (r.key < 0) = false := by simp [y0]
    have q10 : decide (0 < r.key) = false := by simp [y0]
    have q11 : decide (r.ver < 0) = false := by simp [v0]
    have q12 : decide (0 < r.ver) = false := by simp [v0]
    clear hl k3 y0 v0
    subst n0
    go_enter Try.func38, Try.ntmps38
    go_wp2
    go_ret
    exact ⟨by rw [HW.out]; rfl, ext_alloc _ _⟩
  · intro q1 q2 q3 q4 hd HW
    clear hl
    rcases hd with d1 | ⟨d1, d2 | ⟨d2, d3 | ⟨d3, d4⟩⟩⟩
    · skip
      go_enter Try.func38, Try.ntmps38
      go_wp2
      go_ret
      exact ⟨by rw [HW.out]; rfl, ext_alloc _ _⟩
    · skip
      go_enter Try.func38, Try.ntmps38
      go_wp2
      go_ret
      exact ⟨by rw [HW.out]; rfl, ext_alloc _ _⟩
    · skip
      go_enter Try.func38, Try.ntmps38
      go_wp2
      go_ret
      exact ⟨by rw [HW.out]; rfl, ext_alloc _ _⟩
    · skip
      go_enter Try.func38, Try.ntmps38
      go_wp2
      go_ret
      exact ⟨by rw [HW.out]; rfl, ext_alloc _ _⟩
  · intro q1 q2 q3 q4 q5 q6 q7 q8 hd HW
    clear hl
    rcases hd with d1 | ⟨d1, d2, d3, d4⟩
    · skip
      go_enter Try.func38, Try.ntmps38
      go_wp2
      go_ret
      exact ⟨by rw [HW.out]; rfl, ext_alloc _ _⟩
    · have d5 : 0 < n := by simpa using d3
      go_enter Try.func38, Try.ntmps38
      go_wp2
      go_ret
      exact ⟨by rw [HW.out]; rfl, ext_alloc _ _⟩
  · intro q1 q2 q3 q4 q5 q6 q7 q8 d1 hd HW
    clear hl
    rcases hd with d2 | ⟨d2, d3, d4⟩
    · skip
      go_enter Try.func38, Try.ntmps38
      go_wp2
      go_ret
      exact ⟨by rw [HW.out]; rfl, ext_alloc _ _⟩
    · have d5 : ¬ 0 < n := by simpa using d3
      go_enter Try.func38, Try.ntmps38
      go_wp2
      go_ret
      exact ⟨by rw [HW.out]; rfl, ext_alloc _ _⟩
end Go.Proofs.Ytnganglmpcbcbaa
