/- Walks: a record's bytes, the package's. -/
import Derived.Test.YtnganglmpcbcbaaBlk2
import Derived.Test.YtnganglmpcbcbaaMix
namespace Go.Proofs.Ytnganglmpcbcbaa
open Go Go.RowKit

theorem b8v (x : Int) : u8v (b8 x) = .int .u8 (x % 256) := by
  unfold u8v; rw [b8_toNat]; congr 1; omega
theorem two8v (x : Int) (h0 : 0 ≤ x) (h1 : x < 65536) : u8s (sTwo x) = [.int .u8 (x / 256), .int .u8 (x % 256)] := by
  unfold u8s sTwo
  rw [List.map_cons, List.map_cons, b8v, b8v, List.map_nil]
  congr 2
  omega

theorem two_s (n : Int) (w : World) (h0 : 0 ≤ n) (h1 : n < 65536) :
    Calls Try.prog 26 #[.int .i64 n] w fun e w' => ∃ A c, e = .returned (.slice A 2 c) ∧ Sl w' w'.heap.size 1 A 2 c (u8s (sTwo n)) ∧ Ext w w' := by
  refine (two_w n w h0 h1).mono ?_
  rintro e w' ⟨rfl, rfl⟩
  exact ⟨_, _, rfl, Sl.new _ _ _ _ 1 2 (by simp [sTwo, u8s]) (by unfold maxLen; omega) (by simp), ext_alloc _ _⟩

def slen : Value → Nat
  | .slice _ n _ => n
  | _ => 0

set_option maxRecDepth 100000 in
set_option maxHeartbeats 2000000 in
theorem bytes_w {A : Option Addr} {n c B : Nat} {r : Rec} {k : Int} (w : World) (h : By w B A n c r.data) (hB : B ≤ w.heap.size) (hn : n ≤ 8) (h0 : 0 ≤ r.ver) (h1 : r.ver < 65536) :
    Calls Try.prog 40 #[.agg #[.int .i64 r.kind, .int .i64 r.key, .int .i64 r.ver, .slice A n c], .int .i64 k] w fun e w' => ∃ v, e = .returned v ∧ w'.ownsRow w.heap.size 5 1 v 16 (u8s (rBytes r k)) ∧ Ext w w' := by
  have hl := h.len
  have q1 : (n : Int) % 256 = (n : Int) := by omega
  go_enter Try.func40, Try.ntmps40
  go_wp2_with fail
  obtain ⟨W, hW⟩ : ∃ W, W = (w.alloc (.cells #[.int .i64 r.kind, .int .i64 r.key, .int .i64 r.ver, .slice A n c] 32)).alloc (.cells #[.int .u8 (r.kind % 256), .int .u8 (k % 256), .int .u8 (r.key % 256)] 5) := ⟨_, rfl⟩
  rw [← hW]
  have bx : Box W w.heap.size 32 #[.int .i64 r.kind, .int .i64 r.key, .int .i64 r.ver, .slice A n c] := by rw [hW]; exact (Box.new w _ _ rfl).alloc _
  have he : Ext w W := by rw [hW]; exact ext_trans (ext_alloc _ _) (ext_alloc _ _)
  have hW2 : W.heap.size = w.heap.size + 1 + 1 := by rw [hW]; simp
  have hp : W.ownsRow (w.heap.size + 1) 5 1 (.slice (some ⟨w.heap.size + 1, 0, none⟩) 3 3) 3 (u8s [b8 r.kind, b8 k, b8 r.key]) := by
    rw [hW]
    have := own_lit (w.alloc (.cells #[.int .i64 r.kind, .int .i64 r.key, .int .i64 r.ver, .slice A n c] 32)) [.int .u8 (r.kind % 256), .int .u8 (k % 256), .int .u8 (r.key % 256)] 5 (base := w.heap.size + 1) (size := 1) (n := 3) (by simp) rfl (by unfold maxLen; omega)
    simpa [u8s, b8v] using this
  clear hW
  refine wp_region_below (w.heap.size + 1) 12 [0, 1, 2, 5, 6, 7, 8, 11] false rfl (by kernel_rfl) (by kernel_rfl) ?_
  have hd : Below (w.heap.size + 1) W W.drew := (Below.refl _ _).drew
  have hz := hd.size
  have hp : W.drew.ownsRow (w.heap.size + 1) _ _ _ _ _ := hp
  apply mixF 0 (by kernel_rfl) (by rfl) (by rfl)
  · (intro w' hx; go_simp <;> with_reducible rfl)
  simp only [Act.put, List.setIfInBounds_toArray, List.set_cons_zero, List.set_cons_succ]
  apply mixF 1 (by kernel_rfl) (by rfl) (by rfl)
  · (intro w' hx; go_simp <;> with_reducible rfl)
  simp only [Act.put, List.setIfInBounds_toArray, List.set_cons_zero, List.set_cons_succ]
  apply mixF 2 (by kernel_rfl) (by rfl) (by rfl)
  · (intro w' hx; have q := (bx.below (hd.trans hx) (by omega)).cell 2 rfl; go_simp <;> with_reducible rfl)
  simp only [Act.put, List.setIfInBounds_toArray, List.set_cons_zero, List.set_cons_succ]
  apply mixF 5 (by kernel_rfl) (by rfl) (by rfl)
  · (intro w' hx; go_simp <;> with_reducible rfl)
  simp only [Act.put, List.setIfInBounds_toArray, List.set_cons_zero, List.set_cons_succ]
  apply mixF 6 (by kernel_rfl) (by rfl) (by rfl)
  · (intro w' hx; have q := (bx.below (hd.trans hx) (by omega)).cell 3 rfl; go_simp <;> with_reducible rfl)
  simp only [Act.put, List.setIfInBounds_toArray, List.set_cons_zero, List.set_cons_succ]
  apply mixF 7 (by kernel_rfl) (by rfl) (by rfl)
  · (intro w' hx; go_simp <;> with_reducible rfl)
  simp only [Act.put, List.setIfInBounds_toArray, List.set_cons_zero, List.set_cons_succ]
  apply mixF 8 (by kernel_rfl) (by rfl) (by rfl)
  · (intro w' hx; go_simp <;> with_reducible rfl)
  simp only [Act.put, List.setIfInBounds_toArray, List.set_cons_zero, List.set_cons_succ]
  refine mixS2 3 9 (by kernel_rfl) (by kernel_rfl) (by rfl) (by rfl) (by rfl) (by rfl) (fun K hK => ?_) (fun K hK => ?_)
  · skip
    go_wp2_with (go_at_call 26; refine (two_s r.ver _ h0 h1).mono ?_; rintro e w1 ⟨A1, c1, rfl, hs1, he1⟩)
    refine hK.out _ _ (he1.mono (by omega)) ?_
    clear hK K
    try simp only [Act.put, List.setIfInBounds_toArray, List.set_cons_zero, List.set_cons_succ]
    have hd' := he1.mono (B' := w.heap.size + 1) (by omega)
    have hp := own_ext hp he1
    have hd := hd.trans hd'
    have hz := hd.size
    have hz1 := he1.size
    clear hd'
    refine mixS2 4 9 (by kernel_rfl) (by kernel_rfl) (by rfl) (by rfl) (by rfl) (by rfl) (fun K hK => ?_) (fun K hK => ?_)
    · skip
      refine wp_app_u8 (.tmp 15) (.tmp 18) rfl (w.heap.size + 1) (.slice (some ⟨w.heap.size + 1, 0, none⟩) 3 3) 3 _ rfl hp _ A1 2 c1 _ rfl hs1 (u8s_one _) (by rw [blim_def]; omega) (by omega) ?_
      intro v2 w2 hp2 hg2 hb2 hat2
      refine hK.out _ _ hb2 ?_
      clear hK K
      try simp only [Act.put, List.setIfInBounds_toArray, List.set_cons_zero, List.set_cons_succ]
      have hp := hp2
      have hd := hd.trans hb2
      have hz := hd.size
      clear hp2
      refine mixS 9 (by kernel_rfl) (by kernel_rfl) (by rfl) (by rfl) (fun K hK => ?_)
      go_wp2
      refine hK.out _ _ ((ext_alloc _ _).mono (by omega)) ?_
      clear hK K
      try simp only [Act.put, List.setIfInBounds_toArray, List.set_cons_zero, List.set_cons_succ]
      obtain ⟨w4, hw4⟩ : ∃ w4, w4 = w2.alloc (.cells #[.int .u8 (n : Int)] 5) := ⟨_, rfl⟩
      first | rw [← hw4] | rw [show (W.alloc (.cells #[.int .u8 (n : Int)] 5)).drew = w4 by rw [hw4]; rfl]
      have he4 : Ext w2 w4 := by rw [hw4]; exact ext_alloc _ _
      have hs4 : Sl w4 w4.heap.size 1 (some ⟨w2.heap.size, 0, none⟩) 1 1 [.int .u8 (n : Int)] := by rw [hw4]; exact Sl.new _ _ _ _ 1 1 rfl (by unfold maxLen; omega) (by simp)
      have hp := own_ext hp he4
      have hd := hd.trans (he4.mono (B' := w.heap.size + 1) (by omega))
      have hz := hd.size
      clear hw4
      refine mixS 10 (by kernel_rfl) (by kernel_rfl) (by rfl) (by rfl) (fun K hK => ?_)
      refine wp_app_u8 (.tmp 19) (.tmp 24) rfl (w.heap.size + 1) _ 5 _ rfl hp _ _ 1 1 [.int .u8 (n : Int)] rfl hs4 (by simp [Value.oneCell']) (by rw [blim_def]; omega) (by omega) ?_
      intro v5 w5 hp5 hg5 hb5 hat5
      refine hK.out _ _ hb5 ?_
      clear hK K
      try simp only [Act.put, List.setIfInBounds_toArray, List.set_cons_zero, List.set_cons_succ]
      have hd := hd.trans hb5
      have hz := hd.size
      apply mixF 11 (by kernel_rfl) (by rfl) (by rfl)
      · (intro w' hx; go_simp <;> with_reducible rfl)
      simp only [Act.put, List.setIfInBounds_toArray, List.set_cons_zero, List.set_cons_succ]
      refine mixEnd (by kernel_rfl) ?_
      have bx := (bx.below hd (by omega)).cell 3 rfl
      clear hs4 hs1 hg2 hb2 hat2 hg5 hb5 hat5 he4 he1
      go_wp2_with (at_builtin; refine app_u8 rfl (.tmp 26) (.tmp 28) rfl (w.heap.size + 1) v5 6 _ rfl hp5 B A n c (u8s r.data) rfl (Sl.below h ((he.mono hB).trans (hd.mono (by omega)))) (u8s_one _) (by rw [blim_def]; omega) (by omega) ?_; intro v6 w6 hp6 hg6 hb6 hat6)
      have hd := hd.trans hb6
      obtain ⟨pre, hpre⟩ : ∃ pre, pre = [b8 r.kind, b8 k, b8 r.key] ++ sTwo r.ver ++ [b8 n] ++ r.data := ⟨_, rfl⟩
      have hp6 : w6.ownsRow (w.heap.size + 1) 5 1 v6 (6 + n) (u8s pre) := by
        have e : u8s [b8 (n : Int)] = [.int .u8 (n : Int)] := by simp [u8s, b8v, q1]
        rw [hpre, u8s_append, u8s_append, u8s_append, e]
        exact hp6
      have hlp : pre.length = 6 + n := by have := hp6.1; rw [u8s_length] at this; omega
      have Hpre := Lib.hid hpre
      clear hpre hg6 hb6 hat6 hp5 bx
      obtain ⟨A6, c6, rfl, hs6⟩ := own_shape hp6
      go_loopw [5] (fun v wr => ∃ A m c, v = .slice A m c ∧ 6 + n ≤ m ∧ m ≤ 14 ∧ wr.ownsRow (w.heap.size + 1) 5 1 v m (u8s (pre ++ List.replicate (m - (6 + n)) 0)) ∧ Below (w.heap.size + 1) W wr) (fun v _ => 14 - slen v)
      case atStart => exact ⟨_, _, _, rfl, Nat.le_refl _, by omega, by simpa using hp6, hd⟩
      case round =>
        obtain ⟨Ar, m, cr, rfl, hm0, hm1, hown, hdr⟩ := hrel
        by_cases hlt : m < 14
        · have i1 : (m : Int) < 14 := by omega
          have hzr := hdr.size
          go_wp2_with (at_builtin; refine app_u8 rfl (.tmp 33) (.tmp 34) rfl (w.heap.size + 1) _ m _ rfl (own_alloc hown _) _ _ 1 1 [.int .u8 0] rfl (Sl.new _ _ _ _ 1 1 rfl (by unfold maxLen; omega) (Nat.lt_succ_self _)) (by simp [Value.oneCell']) (by rw [blim_def]; omega) (by rw [size_alloc]; omega) ?_; intro v7 w7 hp7 hg7 hb7 hat7)
          obtain ⟨A7, c7, rfl, hs7⟩ := own_shape hp7
          go_roundw
          case rel =>
            refine ⟨_, _, _, rfl, by omega, by omega, ?_, (hdr.alloc (by omega) _).trans hb7⟩
            have e : u8s (pre ++ List.replicate (m + 1 - (6 + n)) 0) = u8s (pre ++ List.replicate (m - (6 + n)) 0) ++ [.int .u8 0] := by
              have : m + 1 - (6 + n) = (m - (6 + n)) + 1 := by omega
              rw [this, List.replicate_succ', ← List.append_assoc, u8s_append _ [0]]
              rfl
            rw [e]
            exact hp7
          case measure => simp [slen]; omega
        · have hm : m = 14 := by omega
          subst hm
          go_wp2_with fail
          have hzr := hdr.size
          refine (seal_w _ _ _ _ _ _ (by_own hown) (Nat.le_refl _) (by rw [blim_def]; omega)).mono ?_
          rintro e w8 ⟨v8, rfl, hown8, he8⟩
          go_wp2
          go_ret
          have e1 : pre ++ List.replicate (14 - (6 + n)) 0 = rBody r k := by
            rw [Hpre.out]
            unfold rBody
            have : 14 - (6 + n) = 8 - r.data.length := by omega
            rw [this, hl]
          rw [e1] at hown8
          exact ⟨v8, rfl, own_more hown8 (by omega), he.trans ((hdr.mono (by omega)).trans (he8.mono (by omega)))⟩
    · skip
      go_wp2
      refine hK.out _ _ ((ext_alloc _ _).mono (by omega)) ?_
      clear hK K
      try simp only [Act.put, List.setIfInBounds_toArray, List.set_cons_zero, List.set_cons_succ]
      obtain ⟨w4, hw4⟩ : ∃ w4, w4 = w1.alloc (.cells #[.int .u8 (n : Int)] 5) := ⟨_, rfl⟩
      first | rw [← hw4] | rw [show (W.alloc (.cells #[.int .u8 (n : Int)] 5)).drew = w4 by rw [hw4]; rfl]
      have he4 : Ext w1 w4 := by rw [hw4]; exact ext_alloc _ _
      have hs4 : Sl w4 w4.heap.size 1 (some ⟨w1.heap.size, 0, none⟩) 1 1 [.int .u8 (n : Int)] := by rw [hw4]; exact Sl.new _ _ _ _ 1 1 rfl (by unfold maxLen; omega) (by simp)
      have hp := own_ext hp he4
      have hd := hd.trans (he4.mono (B' := w.heap.size + 1) (by omega))
      have hz := hd.size
      clear hw4
      refine mixS 4 (by kernel_rfl) (by kernel_rfl) (by rfl) (by rfl) (fun K hK => ?_)
      have hs1 := Sl.below hs1 he4
      refine wp_app_u8 (.tmp 15) (.tmp 18) rfl (w.heap.size + 1) (.slice (some ⟨w.heap.size + 1, 0, none⟩) 3 3) 3 _ rfl hp _ A1 2 c1 _ rfl hs1 (u8s_one _) (by rw [blim_def]; omega) (by omega) ?_
      intro v2 w2 hp2 hg2 hb2 hat2
      refine hK.out _ _ hb2 ?_
      clear hK K
      try simp only [Act.put, List.setIfInBounds_toArray, List.set_cons_zero, List.set_cons_succ]
      have hp := hp2
      have hd := hd.trans hb2
      have hz := hd.size
      clear hp2
      have hs4 := Sl.grown hs4 (Nat.le_refl _) hg2 (by intro ad e1 e2; injection e1 with e1; subst e1; simp [Value.ownBlock] at e2 <;> omega)
      refine mixS 10 (by kernel_rfl) (by kernel_rfl) (by rfl) (by rfl) (fun K hK => ?_)
      refine wp_app_u8 (.tmp 19) (.tmp 24) rfl (w.heap.size + 1) _ 5 _ rfl hp _ _ 1 1 [.int .u8 (n : Int)] rfl hs4 (by simp [Value.oneCell']) (by rw [blim_def]; omega) (by omega) ?_
      intro v5 w5 hp5 hg5 hb5 hat5
      refine hK.out _ _ hb5 ?_
      clear hK K
      try simp only [Act.put, List.setIfInBounds_toArray, List.set_cons_zero, List.set_cons_succ]
      have hd := hd.trans hb5
      have hz := hd.size
      apply mixF 11 (by kernel_rfl) (by rfl) (by rfl)
      · (intro w' hx; go_simp <;> with_reducible rfl)
      simp only [Act.put, List.setIfInBounds_toArray, List.set_cons_zero, List.set_cons_succ]
      refine mixEnd (by kernel_rfl) ?_
      have bx := (bx.below hd (by omega)).cell 3 rfl
      clear hs4 hs1 hg2 hb2 hat2 hg5 hb5 hat5 he4 he1
      go_wp2_with (at_builtin; refine app_u8 rfl (.tmp 26) (.tmp 28) rfl (w.heap.size + 1) v5 6 _ rfl hp5 B A n c (u8s r.data) rfl (Sl.below h ((he.mono hB).trans (hd.mono (by omega)))) (u8s_one _) (by rw [blim_def]; omega) (by omega) ?_; intro v6 w6 hp6 hg6 hb6 hat6)
      have hd := hd.trans hb6
      obtain ⟨pre, hpre⟩ : ∃ pre, pre = [b8 r.kind, b8 k, b8 r.key] ++ sTwo r.ver ++ [b8 n] ++ r.data := ⟨_, rfl⟩
      have hp6 : w6.ownsRow (w.heap.size + 1) 5 1 v6 (6 + n) (u8s pre) := by
        have e : u8s [b8 (n : Int)] = [.int .u8 (n : Int)] := by simp [u8s, b8v, q1]
        rw [hpre, u8s_append, u8s_append, u8s_append, e]
        exact hp6
      have hlp : pre.length = 6 + n := by have := hp6.1; rw [u8s_length] at this; omega
      have Hpre := Lib.hid hpre
      clear hpre hg6 hb6 hat6 hp5 bx
      obtain ⟨A6, c6, rfl, hs6⟩ := own_shape hp6
      go_loopw [5] (fun v wr => ∃ A m c, v = .slice A m c ∧ 6 + n ≤ m ∧ m ≤ 14 ∧ wr.ownsRow (w.heap.size + 1) 5 1 v m (u8s (pre ++ List.replicate (m - (6 + n)) 0)) ∧ Below (w.heap.size + 1) W wr) (fun v _ => 14 - slen v)
      case atStart => exact ⟨_, _, _, rfl, Nat.le_refl _, by omega, by simpa using hp6, hd⟩
      case round =>
        obtain ⟨Ar, m, cr, rfl, hm0, hm1, hown, hdr⟩ := hrel
        by_cases hlt : m < 14
        · have i1 : (m : Int) < 14 := by omega
          have hzr := hdr.size
          go_wp2_with (at_builtin; refine app_u8 rfl (.tmp 33) (.tmp 34) rfl (w.heap.size + 1) _ m _ rfl (own_alloc hown _) _ _ 1 1 [.int .u8 0] rfl (Sl.new _ _ _ _ 1 1 rfl (by unfold maxLen; omega) (Nat.lt_succ_self _)) (by simp [Value.oneCell']) (by rw [blim_def]; omega) (by rw [size_alloc]; omega) ?_; intro v7 w7 hp7 hg7 hb7 hat7)
          obtain ⟨A7, c7, rfl, hs7⟩ := own_shape hp7
          go_roundw
          case rel =>
            refine ⟨_, _, _, rfl, by omega, by omega, ?_, (hdr.alloc (by omega) _).trans hb7⟩
            have e : u8s (pre ++ List.replicate (m + 1 - (6 + n)) 0) = u8s (pre ++ List.replicate (m - (6 + n)) 0) ++ [.int .u8 0] := by
              have : m + 1 - (6 + n) = (m - (6 + n)) + 1 := by omega
              rw [this, List.replicate_succ', ← List.append_assoc, u8s_append _ [0]]
              rfl
            rw [e]
            exact hp7
          case measure => simp [slen]; omega
        · have hm : m = 14 := by omega
          subst hm
          go_wp2_with fail
          have hzr := hdr.size
          refine (seal_w _ _ _ _ _ _ (by_own hown) (Nat.le_refl _) (by rw [blim_def]; omega)).mono ?_
          rintro e w8 ⟨v8, rfl, hown8, he8⟩
          go_wp2
          go_ret
          have e1 : pre ++ List.replicate (14 - (6 + n)) 0 = rBody r k := by
            rw [Hpre.out]
            unfold rBody
            have : 14 - (6 + n) = 8 - r.data.length := by omega
            rw [this, hl]
          rw [e1] at hown8
          exact ⟨v8, rfl, own_more hown8 (by omega), he.trans ((hdr.mono (by omega)).trans (he8.mono (by omega)))⟩
  · skip
    go_wp2
    refine hK.out _ _ ((ext_alloc _ _).mono (by omega)) ?_
    clear hK K
    try simp only [Act.put, List.setIfInBounds_toArray, List.set_cons_zero, List.set_cons_succ]
    obtain ⟨w4, hw4⟩ : ∃ w4, w4 = W.drew.alloc (.cells #[.int .u8 (n : Int)] 5) := ⟨_, rfl⟩
    first | rw [← hw4] | rw [show (W.alloc (.cells #[.int .u8 (n : Int)] 5)).drew = w4 by rw [hw4]; rfl]
    have he4 : Ext W.drew w4 := by rw [hw4]; exact ext_alloc _ _
    have hs4 : Sl w4 w4.heap.size 1 (some ⟨W.heap.size, 0, none⟩) 1 1 [.int .u8 (n : Int)] := by rw [hw4]; exact Sl.new _ _ _ _ 1 1 rfl (by unfold maxLen; omega) (by simp)
    have hp := own_ext hp he4
    have hd := hd.trans (he4.mono (B' := w.heap.size + 1) (by omega))
    have hz := hd.size
    clear hw4
    rw [hW2] at hs4
    refine mixS 3 (by kernel_rfl) (by kernel_rfl) (by rfl) (by rfl) (fun K hK => ?_)
    go_wp2_with (go_at_call 26; refine (two_s r.ver _ h0 h1).mono ?_; rintro e w1 ⟨A1, c1, rfl, hs1, he1⟩)
    refine hK.out _ _ (he1.mono (by omega)) ?_
    clear hK K
    try simp only [Act.put, List.setIfInBounds_toArray, List.set_cons_zero, List.set_cons_succ]
    have hd' := he1.mono (B' := w.heap.size + 1) (by omega)
    have hp := own_ext hp he1
    have hd := hd.trans hd'
    have hz := hd.size
    have hz1 := he1.size
    clear hd'
    have hs4 := Sl.below hs4 he1
    refine mixS 4 (by kernel_rfl) (by kernel_rfl) (by rfl) (by rfl) (fun K hK => ?_)
    refine wp_app_u8 (.tmp 15) (.tmp 18) rfl (w.heap.size + 1) (.slice (some ⟨w.heap.size + 1, 0, none⟩) 3 3) 3 _ rfl hp _ A1 2 c1 _ rfl hs1 (u8s_one _) (by rw [blim_def]; omega) (by omega) ?_
    intro v2 w2 hp2 hg2 hb2 hat2
    refine hK.out _ _ hb2 ?_
    clear hK K
    try simp only [Act.put, List.setIfInBounds_toArray, List.set_cons_zero, List.set_cons_succ]
    have hp := hp2
    have hd := hd.trans hb2
    have hz := hd.size
    clear hp2
    have hs4 := Sl.grown hs4 (by omega) hg2 (by intro ad e1 e2; injection e1 with e1; subst e1; simp [Value.ownBlock] at e2 <;> omega)
    refine mixS 10 (by kernel_rfl) (by kernel_rfl) (by rfl) (by rfl) (fun K hK => ?_)
    refine wp_app_u8 (.tmp 19) (.tmp 24) rfl (w.heap.size + 1) _ 5 _ rfl hp _ _ 1 1 [.int .u8 (n : Int)] rfl hs4 (by simp [Value.oneCell']) (by rw [blim_def]; omega) (by omega) ?_
    intro v5 w5 hp5 hg5 hb5 hat5
    refine hK.out _ _ hb5 ?_
    clear hK K
    try simp only [Act.put, List.setIfInBounds_toArray, List.set_cons_zero, List.set_cons_succ]
    have hd := hd.trans hb5
    have hz := hd.size
    apply mixF 11 (by kernel_rfl) (by rfl) (by rfl)
    · (intro w' hx; go_simp <;> with_reducible rfl)
    simp only [Act.put, List.setIfInBounds_toArray, List.set_cons_zero, List.set_cons_succ]
    refine mixEnd (by kernel_rfl) ?_
    have bx := (bx.below hd (by omega)).cell 3 rfl
    clear hs4 hs1 hg2 hb2 hat2 hg5 hb5 hat5 he4 he1
    go_wp2_with (at_builtin; refine app_u8 rfl (.tmp 26) (.tmp 28) rfl (w.heap.size + 1) v5 6 _ rfl hp5 B A n c (u8s r.data) rfl (Sl.below h ((he.mono hB).trans (hd.mono (by omega)))) (u8s_one _) (by rw [blim_def]; omega) (by omega) ?_; intro v6 w6 hp6 hg6 hb6 hat6)
    have hd := hd.trans hb6
    obtain ⟨pre, hpre⟩ : ∃ pre, pre = [b8 r.kind, b8 k, b8 r.key] ++ sTwo r.ver ++ [b8 n] ++ r.data := ⟨_, rfl⟩
    have hp6 : w6.ownsRow (w.heap.size + 1) 5 1 v6 (6 + n) (u8s pre) := by
      have e : u8s [b8 (n : Int)] = [.int .u8 (n : Int)] := by simp [u8s, b8v, q1]
      rw [hpre, u8s_append, u8s_append, u8s_append, e]
      exact hp6
    have hlp : pre.length = 6 + n := by have := hp6.1; rw [u8s_length] at this; omega
    have Hpre := Lib.hid hpre
    clear hpre hg6 hb6 hat6 hp5 bx
    obtain ⟨A6, c6, rfl, hs6⟩ := own_shape hp6
    go_loopw [5] (fun v wr => ∃ A m c, v = .slice A m c ∧ 6 + n ≤ m ∧ m ≤ 14 ∧ wr.ownsRow (w.heap.size + 1) 5 1 v m (u8s (pre ++ List.replicate (m - (6 + n)) 0)) ∧ Below (w.heap.size + 1) W wr) (fun v _ => 14 - slen v)
    case atStart => exact ⟨_, _, _, rfl, Nat.le_refl _, by omega, by simpa using hp6, hd⟩
    case round =>
      obtain ⟨Ar, m, cr, rfl, hm0, hm1, hown, hdr⟩ := hrel
      by_cases hlt : m < 14
      · have i1 : (m : Int) < 14 := by omega
        have hzr := hdr.size
        go_wp2_with (at_builtin; refine app_u8 rfl (.tmp 33) (.tmp 34) rfl (w.heap.size + 1) _ m _ rfl (own_alloc hown _) _ _ 1 1 [.int .u8 0] rfl (Sl.new _ _ _ _ 1 1 rfl (by unfold maxLen; omega) (Nat.lt_succ_self _)) (by simp [Value.oneCell']) (by rw [blim_def]; omega) (by rw [size_alloc]; omega) ?_; intro v7 w7 hp7 hg7 hb7 hat7)
        obtain ⟨A7, c7, rfl, hs7⟩ := own_shape hp7
        go_roundw
        case rel =>
          refine ⟨_, _, _, rfl, by omega, by omega, ?_, (hdr.alloc (by omega) _).trans hb7⟩
          have e : u8s (pre ++ List.replicate (m + 1 - (6 + n)) 0) = u8s (pre ++ List.replicate (m - (6 + n)) 0) ++ [.int .u8 0] := by
            have : m + 1 - (6 + n) = (m - (6 + n)) + 1 := by omega
            rw [this, List.replicate_succ', ← List.append_assoc, u8s_append _ [0]]
            rfl
          rw [e]
          exact hp7
        case measure => simp [slen]; omega
      · have hm : m = 14 := by omega
        subst hm
        go_wp2_with fail
        have hzr := hdr.size
        refine (seal_w _ _ _ _ _ _ (by_own hown) (Nat.le_refl _) (by rw [blim_def]; omega)).mono ?_
        rintro e w8 ⟨v8, rfl, hown8, he8⟩
        go_wp2
        go_ret
        have e1 : pre ++ List.replicate (14 - (6 + n)) 0 = rBody r k := by
          rw [Hpre.out]
          unfold rBody
          have : 14 - (6 + n) = 8 - r.data.length := by omega
          rw [this, hl]
        rw [e1] at hown8
        exact ⟨v8, rfl, own_more hown8 (by omega), he.trans ((hdr.mono (by omega)).trans (he8.mono (by omega)))⟩

end Go.Proofs.Ytnganglmpcbcbaa
