/- Plain functions and lemmas: what each Go function computes, as functions on lists and numbers. No program here. -/
namespace Go.Proofs.Ytnganglmpcbcbaa

structure Rec where
  kind : Int
  key : Int
  ver : Int
  data : List UInt8

structure Dsk where
  blocks : List (List UInt8)
  late : List (Int × List UInt8)

structure Ent where
  rcd : Rec
  pair : Int

structure Sto where
  disk : Dsk
  index : List Ent
  next : Int

structure Ded where
  kind : Int
  key : Int
  n : Int
  data : List UInt8

structure Stp where
  kind : Int
  n : Int
  m : Int
  deed : Ded

/-! ### chapter 1 -/
def b8 (n : Int) : UInt8 := UInt8.ofNat (n % 256).toNat
def sStep (s : Int) (c : UInt8) : Int := (s * 131 + (c.toNat : Int) + 1) % 65521
def sOf (b : List UInt8) : Int := b.foldl sStep 3
def sTwo (n : Int) : List UInt8 := [b8 (n / 256), b8 n]
def sNum (a b : UInt8) : Int := (a.toNat : Int) * 256 + (b.toNat : Int)
def sSeal (b : List UInt8) : List UInt8 := b ++ sTwo (sOf b)
def sSealed (b : List UInt8) : Bool :=
  decide (2 ≤ b.length) && decide (sNum (b.getD (b.length - 2) 0) (b.getD (b.length - 1) 0) = sOf (b.take (b.length - 2)))

theorem sStep_bd (s : Int) (c : UInt8) : 0 ≤ sStep s c ∧ sStep s c < 65521 := by unfold sStep; omega
theorem sOf_bd (b : List UInt8) : 0 ≤ sOf b ∧ sOf b < 65521 := by
  unfold sOf
  have h : ∀ (l : List UInt8) (s : Int), 0 ≤ s ∧ s < 65521 → 0 ≤ l.foldl sStep s ∧ l.foldl sStep s < 65521 := by
    intro l
    induction l with
    | nil => intro s h; exact h
    | cons c l ih => intro s _; exact ih _ (sStep_bd s c)
  exact h b 3 (by omega)
theorem b8_toNat (n : Int) : (b8 n).toNat = (n % 256).toNat := by
  unfold b8
  rw [UInt8.toNat_ofNat']
  omega
theorem b8_of (c : UInt8) : b8 (c.toNat : Int) = c := by
  apply UInt8.toNat_inj.1
  rw [b8_toNat]
  have := c.toNat_lt
  omega
theorem sNum_two (n : Int) (h0 : 0 ≤ n) (h1 : n < 65536) : sNum (b8 (n / 256)) (b8 n) = n := by
  unfold sNum
  rw [b8_toNat, b8_toNat]
  omega
theorem sTwo_sNum (a b : UInt8) : sTwo (sNum a b) = [a, b] := by
  unfold sTwo sNum
  have ha := a.toNat_lt
  have hb := b.toNat_lt
  have e1 : ((a.toNat : Int) * 256 + (b.toNat : Int)) / 256 = (a.toNat : Int) := by omega
  have e2 : b8 ((a.toNat : Int) * 256 + (b.toNat : Int)) = b := by
    apply UInt8.toNat_inj.1
    rw [b8_toNat]
    omega
  rw [e1, e2, b8_of]
theorem sNum_bd (a b : UInt8) : 0 ≤ sNum a b ∧ sNum a b < 65536 := by
  have ha := a.toNat_lt
  have hb := b.toNat_lt
  unfold sNum
  omega
theorem sNum_inj {a b c d : UInt8} (h : sNum a b = sNum c d) : a = c ∧ b = d := by
  have h1 := sTwo_sNum a b
  rw [h, sTwo_sNum] at h1
  injection h1 with h1 h2
  injection h2 with h2 _
  exact ⟨h1.symm, h2.symm⟩
theorem sSeal_length (b : List UInt8) : (sSeal b).length = b.length + 2 := by simp [sSeal, sTwo]
theorem take_sSeal (b : List UInt8) : (sSeal b).take b.length = b := by simp [sSeal]
theorem sSealed_iff (x : List UInt8) : sSealed x = true ↔ ∃ b, x = sSeal b := by
  constructor
  · intro h
    unfold sSealed at h
    simp only [Bool.and_eq_true, decide_eq_true_eq] at h
    obtain ⟨h2, hn⟩ := h
    refine ⟨x.take (x.length - 2), ?_⟩
    unfold sSeal
    rw [← hn, sTwo_sNum]
    have h3 : x.drop (x.length - 2) = [x.getD (x.length - 2) 0, x.getD (x.length - 1) 0] := by
      rw [List.drop_eq_getElem_cons (by omega), List.drop_eq_getElem_cons (by omega), List.drop_eq_nil_of_le (by omega)]
      simp only [List.getD_eq_getElem?_getD]
      rw [List.getElem?_eq_getElem (by omega), List.getElem?_eq_getElem (by omega)]
      simp only [Option.getD_some, List.cons.injEq, true_and, and_true]
      congr 1
      omega
    rw [← h3, List.take_append_drop]
  · rintro ⟨b, rfl⟩
    unfold sSealed
    have hl := sSeal_length b
    have h1 : (sSeal b).getD ((sSeal b).length - 2) 0 = b8 (sOf b / 256) := by
      rw [hl]; simp [sSeal, sTwo]
    have h2 : (sSeal b).getD ((sSeal b).length - 1) 0 = b8 (sOf b) := by
      rw [hl]
      have : b.length + 2 - 1 = b.length + 1 := by omega
      rw [this]; simp [sSeal, sTwo]
    rw [h1, h2, hl, Nat.add_sub_cancel, take_sSeal, sNum_two _ (sOf_bd b).1 (by have := (sOf_bd b).2; omega)]
    simp

theorem sSeal_take (l : List UInt8) (m : Nat) (h : l.length = m + 2) : (sSeal (l.take m) == l) = sSealed l := by
  rw [Bool.eq_iff_iff, sSealed_iff, beq_iff_eq]
  constructor
  · intro e; exact ⟨_, e.symm⟩
  · rintro ⟨b, rfl⟩
    have hb : b.length = m := by rw [sSeal_length] at h; omega
    rw [← hb, take_sSeal]

end Go.Proofs.Ytnganglmpcbcbaa
