/- Plain: a record's bytes and the reading are each other's inverse; one byte turned is found. -/
import Derived.Test.YtnganglmpcbcbaaSumByte
import Derived.Test.YtnganglmpcbcbaaRec
namespace Go.Proofs.Ytnganglmpcbcbaa

theorem rWrong_zero' {r : Rec} (h : rWrong r = 0) : r.data.length ≤ 8 ∧ (0 ≤ r.kind ∧ r.kind ≤ 255) ∧ (0 ≤ r.key ∧ r.key ≤ 255) ∧ (0 ≤ r.ver ∧ r.ver ≤ 60000) := by
  unfold rWrong at h
  split at h
  · omega
  split at h
  · omega
  split at h
  · omega
  split at h
  · omega
  omega
theorem rBody_length {r : Rec} {k : Int} (h : r.data.length ≤ 8) : (rBody r k).length = 14 := by
  unfold rBody sTwo
  simp
  omega
theorem rBytes_length {r : Rec} {k : Int} (h : r.data.length ≤ 8) : (rBytes r k).length = 16 := by
  unfold rBytes
  rw [sSeal_length, rBody_length h]
theorem rBytes_form (r : Rec) (k : Int) : ∃ t, rBytes r k = b8 r.kind :: b8 k :: b8 r.key :: b8 (r.ver / 256) :: b8 r.ver :: b8 r.data.length :: (r.data ++ (List.replicate (8 - r.data.length) 0 ++ t)) :=
  ⟨sTwo (sOf (rBody r k)), by unfold rBytes sSeal; unfold rBody sTwo; simp⟩
theorem b8_small {n : Int} (h0 : 0 ≤ n) (h1 : n ≤ 255) : ((b8 n).toNat : Int) = n := by rw [b8_toNat]; omega
theorem rTold_bytes {r : Rec} {k : Int} (h : rWrong r = 0) : rTold (rBytes r k) = r := by
  obtain ⟨hl, ⟨a0, a1⟩, ⟨b0, b1⟩, c0, c1⟩ := rWrong_zero' h
  obtain ⟨t, ht⟩ := rBytes_form r k
  rw [ht]
  unfold rTold
  have e5 : (b8 (r.data.length : Int)).toNat = r.data.length := by have := b8_small (n := r.data.length) (by omega) (by omega); omega
  simp only [List.getD_cons_zero, List.getD_cons_succ, b8_small a0 a1, b8_small b0 b1, sNum_two _ c0 (by omega), List.drop_succ_cons, List.drop_zero, e5, List.take_left']
theorem rRead_ok {b : List UInt8} {k : Int} (hlen : b.length = 16) (hs : sSealed b = true) (hk : ((b.getD 1 0).toNat : Int) = k) (h8 : (b.getD 5 0).toNat ≤ 8)
    (hz : ((b.drop (6 + (b.getD 5 0).toNat)).take (8 - (b.getD 5 0).toNat)).any (fun c => c != 0) = false) : rRead b k = if rWrong (rTold b) ≠ 0 then (rZero, rWrong (rTold b)) else (rTold b, 0) := by
  unfold rRead
  rw [if_neg (by omega), if_neg (by rw [hs]; simp), if_neg (by omega), if_neg (by omega), hz]
  rfl
theorem turn1 {r : Rec} {k : Int} (h : rWrong r = 0) (h0 : 0 ≤ k) (h1 : k ≤ 255) : rRead (rBytes r k) k = (r, 0) := by
  obtain ⟨hl, _⟩ := rWrong_zero' h
  have hs : sSealed (rBytes r k) = true := (sSealed_iff _).2 ⟨_, rfl⟩
  obtain ⟨t, ht⟩ := rBytes_form r k
  have e5 : (b8 (r.data.length : Int)).toNat = r.data.length := by have := b8_small (n := r.data.length) (by omega) (by omega); omega
  have g1 : (rBytes r k).getD 1 0 = b8 k := by rw [ht]; rfl
  have g5 : (rBytes r k).getD 5 0 = b8 r.data.length := by rw [ht]; rfl
  have hd : (rBytes r k).drop (6 + r.data.length) = List.replicate (8 - r.data.length) 0 ++ t := by
    rw [ht, Nat.add_comm]
    show List.drop r.data.length (r.data ++ _) = _
    rw [List.drop_left']
    rfl
  rw [rRead_ok (rBytes_length hl) hs (by rw [g1]; exact b8_small h0 h1) (by rw [g5, e5]; exact hl) (by
    rw [g5, e5, hd, List.take_left' (by simp)]
    simp), rTold_bytes h, if_neg (by rw [h]; simp)]
theorem turn2 {r : Rec} {k m : Int} (h : rWrong r = 0) (h0 : 0 ≤ k) (h1 : k ≤ 255) (hm : m ≠ k) : rRead (rBytes r k) m = (rZero, 8) := by
  obtain ⟨hl, _⟩ := rWrong_zero' h
  unfold rRead
  have hs : sSealed (rBytes r k) = true := (sSealed_iff _).2 ⟨_, rfl⟩
  rw [if_neg (by rw [rBytes_length hl]; simp), if_neg (by rw [hs]; simp), if_pos]
  obtain ⟨t, ht⟩ := rBytes_form r k
  rw [ht]
  simp only [List.getD_cons_zero, List.getD_cons_succ, b8_small h0 h1]
  exact fun e => hm e.symm
theorem zeros_of (l : List UInt8) (h : l.any (fun c => c != 0) = false) : l = List.replicate l.length 0 := by
  rw [List.eq_replicate_iff]
  refine ⟨rfl, fun b hb => ?_⟩
  rw [List.any_eq_false] at h
  simpa using h b hb
theorem turn3 {b : List UInt8} {k : Int} (he : (rRead b k).2 = 0) : rWrong (rRead b k).1 = 0 ∧ rBytes (rRead b k).1 k = b := by
  unfold rRead at he ⊢
  split at he
  · omega
  rename_i hl
  split at he
  · omega
  rename_i hs
  split at he
  · omega
  rename_i hk
  split at he
  · omega
  rename_i h8
  split at he
  · omega
  rename_i hz
  split at he
  · rename_i hw; exact absurd he hw
  rename_i hw
  have hw' : rWrong (rTold b) = 0 := by omega
  rw [if_neg hl, if_neg hs, if_neg hk, if_neg h8, if_neg hz, if_neg hw]
  refine ⟨hw', ?_⟩
  have hs' : sSealed b = true := by cases h : sSealed b <;> simp_all
  obtain ⟨b', rfl⟩ := (sSealed_iff b).1 hs'
  show sSeal (rBody (rTold (sSeal b')) k) = sSeal b'
  congr 1
  have hl' : b'.length = 14 := by rw [sSeal_length] at hl; omega
  obtain ⟨x0, x1, x2, x3, x4, x5, d, rfl⟩ : ∃ x0 x1 x2 x3 x4 x5 d, b' = x0 :: x1 :: x2 :: x3 :: x4 :: x5 :: d := by
    match b', hl' with
    | x0 :: x1 :: x2 :: x3 :: x4 :: x5 :: d, _ => exact ⟨x0, x1, x2, x3, x4, x5, d, rfl⟩
  have hd : d.length = 8 := by simpa using hl'
  have hdp : ∀ i, (sSeal (x0 :: x1 :: x2 :: x3 :: x4 :: x5 :: d)).drop (6 + i) = (d ++ sTwo (sOf (x0 :: x1 :: x2 :: x3 :: x4 :: x5 :: d))).drop i := by
    intro i
    rw [Nat.add_comm]
    rfl
  have g : ∀ j, j < 6 → (sSeal (x0 :: x1 :: x2 :: x3 :: x4 :: x5 :: d)).getD j 0 = (x0 :: x1 :: x2 :: x3 :: x4 :: x5 :: d).getD j 0 := by
    intro j hj
    unfold sSeal
    rw [List.getD_eq_getElem?_getD, List.getElem?_append_left (by simp; omega), ← List.getD_eq_getElem?_getD]
  have g0 := g 0 (by omega)
  have g1 := g 1 (by omega)
  have g2 := g 2 (by omega)
  have g3 := g 3 (by omega)
  have g4 := g 4 (by omega)
  have g5 := g 5 (by omega)
  simp only [List.getD_cons_zero, List.getD_cons_succ] at g0 g1 g2 g3 g4 g5
  rw [g1] at hk
  rw [g5] at h8 hz
  have hx5 : x5.toNat ≤ 8 := by omega
  rw [hdp, List.drop_append_of_le_length (by omega), List.take_append_of_le_length (by simp; omega)] at hz
  have hz1 := zeros_of _ (Bool.eq_false_iff.2 hz)
  rw [List.take_of_length_le (by simp; omega)] at hz1
  have hlen : (List.drop x5.toNat d).length = 8 - x5.toNat := by simp; omega
  rw [hlen] at hz1
  have hk' : x1 = b8 k := by
    have : (x1.toNat : Int) = k := by omega
    rw [← this, b8_of]
  unfold rBody rTold
  rw [g0, g2, g3, g4, g5, show (6 : Nat) = 6 + 0 from rfl, hdp, List.drop_zero, List.take_append_of_le_length (by omega), b8_of, b8_of, sTwo_sNum, ← hk']
  have hlt : (List.take x5.toNat d).length = x5.toNat := by simp; omega
  simp only [hlt, b8_of]
  rw [← hz1]
  simp
theorem rByte_found {r : Rec} {k m : Int} (h : rWrong r = 0) (i : Nat) (y : UInt8) (hi : i < 16) (hy : (rBytes r k).getD i 0 ≠ y) : rRead ((rBytes r k).set i y) m = (rZero, 7) := by
  obtain ⟨hl, _⟩ := rWrong_zero' h
  have hs : sSealed ((rBytes r k).set i y) = false := sealed_set (rBody r k) i y (by rw [rBody_length hl]; omega) hy
  unfold rRead
  rw [if_neg (by rw [List.length_set, rBytes_length hl]; simp), if_pos hs]

end Go.Proofs.Ytnganglmpcbcbaa
