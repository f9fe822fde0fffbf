/- Plain: the index (chapter 5). -/
import Derived.Test.YtnganglmpcbcbaaPl4
namespace Go.Proofs.Ytnganglmpcbcbaa

def eLt (a b : Ent) : Prop := a.rcd.key < b.rcd.key ∨ (a.rcd.key = b.rcd.key ∧ (a.rcd.ver < b.rcd.ver ∨ (a.rcd.ver = b.rcd.ver ∧ a.pair < b.pair)))
instance (a b : Ent) : Decidable (eLt a b) := inferInstanceAs (Decidable (_ ∨ _))
def eSame (a b : Ent) : Bool := decide (a.pair = b.pair) && rSame a.rcd b.rcd
theorem eSame_iff (a b : Ent) : eSame a b = true ↔ a = b := by
  cases a; cases b
  simp [eSame, rSame_iff, and_comm]
instance : DecidableEq Rec := fun a b => decidable_of_iff _ (rSame_iff a b)
instance : DecidableEq Ent := fun a b => decidable_of_iff _ (eSame_iff a b)
def esSame (l m : List Ent) : Bool := decide (l = m)
def iIns : List Ent → Ent → List Ent
  | [], e => [e]
  | x :: l, e => if eLt e x then e :: x :: l else x :: iIns l e
/-- The pairs ahead of k that tell, in turn; and by keys, and versions, rising. -/
def sTo (d : Dsk) : Nat → List Ent
  | 0 => []
  | k + 1 => if (pLook d k).2.kind ≠ 1 then sTo d k ++ [⟨(pLook d k).2, k⟩] else sTo d k
def iTo (d : Dsk) : Nat → List Ent
  | 0 => []
  | k + 1 => if (pLook d k).2.kind ≠ 1 then iIns (iTo d k) ⟨(pLook d k).2, k⟩ else iTo d k
def iScan (d : Dsk) : List Ent := iTo d (d.blocks.length / 2)
def iUsed (l : List Ent) (p : Int) : Bool := l.any fun e => decide (e.pair = p)
/-- The first number from k on, of so many, that no entry has. -/
def iFreeFrom (l : List Ent) : Nat → Nat → Int
  | _, 0 => -1
  | k, n + 1 => if iUsed l k then iFreeFrom l (k + 1) n else k
def iFree (l : List Ent) (n : Int) : Int := iFreeFrom l 0 n.toNat
def iDrop (l : List Ent) (p : Int) : List Ent := l.filter fun e => !decide (e.pair = p)
def iLast (l : List Ent) (k : Int) : Option Ent := l.reverse.find? fun e => decide (e.rcd.key = k)
def iFind (l : List Ent) (k v : Int) : Option Ent := l.find? fun e => decide (e.rcd.key = k) && decide (e.rcd.ver = v)
def eOne (e : Ent) : Bool := rOne e.rcd && decide (0 ≤ e.pair) && decide (e.pair ≤ 1000)
/-- Rising, of right records, in pairs that are unlike. -/
def iRight (l : List Ent) : Prop := (∀ e ∈ l, eOne e = true) ∧ l.Pairwise eLt ∧ l.Pairwise fun a b => a.pair ≠ b.pair

theorem eLt_trans {a b c : Ent} (h : eLt a b) (k : eLt b c) : eLt a c := by unfold eLt at *; omega
theorem eLt_irrefl (a : Ent) : ¬ eLt a a := by unfold eLt; omega
theorem eLt_asymm {a b : Ent} (h : eLt a b) : ¬ eLt b a := by unfold eLt at *; omega
theorem eLt_total {a b : Ent} (h : a.pair ≠ b.pair) (k : ¬ eLt a b) : eLt b a := by unfold eLt at *; omega
theorem iIns_mem (l : List Ent) (e x : Ent) : x ∈ iIns l e ↔ x = e ∨ x ∈ l := by
  induction l with
  | nil => simp [iIns]
  | cons y l ih =>
    unfold iIns
    split
    · simp
    · simp only [List.mem_cons, ih]
      constructor
      · rintro (h | h | h) <;> simp [h]
      · rintro (h | h | h) <;> simp [h]
theorem iIns_perm (l : List Ent) (e : Ent) : (iIns l e).Perm (l ++ [e]) := by
  induction l with
  | nil => exact List.Perm.refl _
  | cons y l ih =>
    unfold iIns
    split
    · exact (List.perm_append_comm (l₁ := [e]) (l₂ := y :: l))
    · exact List.Perm.cons _ ih
theorem iIns_length (l : List Ent) (e : Ent) : (iIns l e).length = l.length + 1 := by rw [(iIns_perm l e).length_eq]; simp
theorem iIns_sorted {l : List Ent} {e : Ent} (h : l.Pairwise eLt) (hp : ∀ x ∈ l, x.pair ≠ e.pair) : (iIns l e).Pairwise eLt := by
  induction l with
  | nil => simp [iIns]
  | cons y l ih =>
    obtain ⟨h1, h2⟩ := List.pairwise_cons.1 h
    unfold iIns
    split
    · rename_i hlt
      refine List.pairwise_cons.2 ⟨fun x hx => ?_, h⟩
      rcases List.mem_cons.1 hx with rfl | hx
      · exact hlt
      · exact eLt_trans hlt (h1 x hx)
    · rename_i hlt
      refine List.pairwise_cons.2 ⟨fun x hx => ?_, ih h2 fun x hx => hp x (by simp [hx])⟩
      rcases (iIns_mem l e x).1 hx with rfl | hx
      · exact eLt_total (fun e' => hp y (by simp) e'.symm) hlt
      · exact h1 x hx
theorem iIns_pairs {l : List Ent} {e : Ent} (h : l.Pairwise fun a b => a.pair ≠ b.pair) (hp : ∀ x ∈ l, x.pair ≠ e.pair) : (iIns l e).Pairwise fun a b => a.pair ≠ b.pair := by
  have h1 : (l ++ [e]).Pairwise fun a b => a.pair ≠ b.pair := by
    rw [List.pairwise_append]
    exact ⟨h, List.pairwise_singleton _ _, fun a ha b hb => by
      obtain rfl : b = e := by simpa using hb
      exact hp a ha⟩
  exact (iIns_perm l e).symm.pairwise h1 (fun {_ _} h => fun e => h e.symm)
/-- Two sorted lists of the same elements are the same. -/
theorem sorted_unique : ∀ {l m : List Ent}, l.Perm m → l.Pairwise eLt → m.Pairwise eLt → l = m
  | [], m, h, _, _ => (List.nil_perm.1 h).symm
  | x :: l, [], h, _, _ => absurd h.length_eq (by simp)
  | x :: l, y :: m, h, hl, hm => by
    obtain ⟨l1, l2⟩ := List.pairwise_cons.1 hl
    obtain ⟨m1, m2⟩ := List.pairwise_cons.1 hm
    have hx : x ∈ y :: m := h.subset (by simp)
    have hy : y ∈ x :: l := h.symm.subset (by simp)
    have e : x = y := by
      rcases List.mem_cons.1 hx with e | hx
      · exact e
      · rcases List.mem_cons.1 hy with e | hy
        · exact e.symm
        · exact absurd (l1 y hy) (eLt_asymm (m1 x hx))
    subst e
    rw [sorted_unique (List.Perm.cons_inv h) l2 m2]
/-- A sorted list that holds a list's elements and one more is that with it. -/
theorem ins_unique {l m : List Ent} {e : Ent} (h : m.Perm (l ++ [e])) (hl : l.Pairwise eLt) (hp : ∀ x ∈ l, x.pair ≠ e.pair) (hm : m.Pairwise eLt) : m = iIns l e :=
  sorted_unique (h.trans (iIns_perm l e).symm) hm (iIns_sorted hl hp)
theorem sTo_mem (d : Dsk) : ∀ (k : Nat) (e : Ent), e ∈ sTo d k ↔ ∃ i : Nat, i < k ∧ (pLook d i).2.kind ≠ 1 ∧ e = ⟨(pLook d i).2, i⟩
  | 0, e => by simp [sTo]
  | k + 1, e => by
    have ih := sTo_mem d k e
    unfold sTo
    split
    · rename_i hk
      rw [List.mem_append, ih]
      constructor
      · rintro (⟨i, hi, h⟩ | h)
        · exact ⟨i, by omega, h⟩
        · obtain rfl := List.mem_singleton.1 h
          exact ⟨k, by omega, hk, rfl⟩
      · rintro ⟨i, hi, h1, h2⟩
        rcases Nat.lt_or_ge i k with h | h
        · exact .inl ⟨i, h, h1, h2⟩
        · obtain rfl : i = k := by omega
          exact .inr (by simp [h2])
    · rename_i hk
      rw [ih]
      constructor
      · rintro ⟨i, hi, h⟩; exact ⟨i, by omega, h⟩
      · rintro ⟨i, hi, h1, h2⟩
        rcases Nat.lt_or_ge i k with h | h
        · exact ⟨i, h, h1, h2⟩
        · obtain rfl : i = k := by omega
          exact absurd h1 hk
theorem sTo_pair (d : Dsk) (k : Nat) : ∀ e ∈ sTo d k, e.pair < k := by
  intro e he
  obtain ⟨i, hi, _, rfl⟩ := (sTo_mem d k e).1 he
  show (i : Int) < k
  omega
theorem iTo_perm (d : Dsk) : ∀ k : Nat, (iTo d k).Perm (sTo d k)
  | 0 => List.Perm.refl _
  | k + 1 => by
    unfold iTo sTo
    split
    · exact (iIns_perm _ _).trans ((iTo_perm d k).append_right _)
    · exact iTo_perm d k
theorem iTo_mem (d : Dsk) (k : Nat) (e : Ent) : e ∈ iTo d k ↔ ∃ i : Nat, i < k ∧ (pLook d i).2.kind ≠ 1 ∧ e = ⟨(pLook d i).2, i⟩ := by rw [(iTo_perm d k).mem_iff, sTo_mem]
theorem iTo_pair (d : Dsk) (k : Nat) : ∀ e ∈ iTo d k, e.pair < k := fun e he => sTo_pair d k e ((iTo_perm d k).subset he)
theorem iTo_ne (d : Dsk) (k : Nat) : ∀ e ∈ iTo d k, e.pair ≠ (k : Int) := fun e he => by have := iTo_pair d k e he; omega
theorem iTo_sorted (d : Dsk) : ∀ k : Nat, (iTo d k).Pairwise eLt
  | 0 => List.Pairwise.nil
  | k + 1 => by
    unfold iTo
    split
    · exact iIns_sorted (iTo_sorted d k) (iTo_ne d k)
    · exact iTo_sorted d k
theorem iTo_pairs (d : Dsk) : ∀ k : Nat, (iTo d k).Pairwise fun a b => a.pair ≠ b.pair
  | 0 => List.Pairwise.nil
  | k + 1 => by
    unfold iTo
    split
    · exact iIns_pairs (iTo_pairs d k) (iTo_ne d k)
    · exact iTo_pairs d k
theorem sTo_length (d : Dsk) : ∀ k : Nat, (sTo d k).length ≤ k
  | 0 => Nat.le_refl _
  | k + 1 => by
    have := sTo_length d k
    unfold sTo
    split
    · simp; omega
    · omega
theorem iTo_length (d : Dsk) (k : Nat) : (iTo d k).length ≤ k := by rw [(iTo_perm d k).length_eq]; exact sTo_length d k
theorem rOne_of {r : Rec} (h : rWrong r = 0) (hk : r.kind ≠ 1) : rOne r = true := by simp [rOne, h, hk]
theorem iScan_right (d : Dsk) (h : d.blocks.length ≤ 100) : iRight (iScan d) := by
  refine ⟨fun e he => ?_, iTo_sorted d _, iTo_pairs d _⟩
  obtain ⟨i, hi, hk, rfl⟩ := (iTo_mem d _ e).1 he
  unfold eOne
  simp only [Bool.and_eq_true, decide_eq_true_eq]
  exact ⟨⟨rOne_of (pLook_right d i) hk, by omega⟩, by omega⟩
theorem iRight_sub {l m : List Ent} (h : iRight l) (hs : m.Sublist l) : iRight m :=
  ⟨fun e he => h.1 e (hs.subset he), h.2.1.sublist hs, h.2.2.sublist hs⟩

/-! ### IndexBack -/
theorem iDrop_ins {l : List Ent} {e : Ent} (hp : ∀ x ∈ l, x.pair ≠ e.pair) : iDrop (iIns l e) e.pair = l := by
  unfold iDrop
  induction l with
  | nil => simp [iIns]
  | cons y l ih =>
    have hy := hp y (by simp)
    have hl : ∀ x ∈ l, x.pair ≠ e.pair := fun x hx => hp x (by simp [hx])
    unfold iIns
    split
    · rw [List.filter_cons_of_neg (by simp), List.filter_eq_self.2 (fun x hx => by simpa using hp x hx)]
    · rw [List.filter_cons_of_pos (by simpa using hy), ih hl]
theorem iFind_ins {l : List Ent} {e : Ent} (hk : ∀ x ∈ l, ¬ (x.rcd.key = e.rcd.key ∧ x.rcd.ver = e.rcd.ver)) : iFind (iIns l e) e.rcd.key e.rcd.ver = some e ∧ iFind l e.rcd.key e.rcd.ver = none := by
  have hn : iFind l e.rcd.key e.rcd.ver = none := by
    unfold iFind
    rw [List.find?_eq_none]
    intro x hx
    have := hk x hx
    simpa using this
  refine ⟨?_, hn⟩
  unfold iFind at hn ⊢
  induction l with
  | nil => simp [iIns]
  | cons y l ih =>
    have hy := hk y (by simp)
    have hl : ∀ x ∈ l, ¬ (x.rcd.key = e.rcd.key ∧ x.rcd.ver = e.rcd.ver) := fun x hx => hk x (by simp [hx])
    have hf : (decide (y.rcd.key = e.rcd.key) && decide (y.rcd.ver = e.rcd.ver)) = false := by
      simpa using hy
    unfold iIns
    split
    · rw [List.find?_cons_of_pos (by simp)]
    · rw [List.find?_cons_of_neg (by rw [hf]; simp)]
      refine ih hl ?_
      rw [List.find?_cons_of_neg (by rw [hf]; simp)] at hn
      exact hn
theorem iRight_ins {l : List Ent} {e : Ent} (h : iRight l) (he : eOne e = true) (hp : ∀ x ∈ l, x.pair ≠ e.pair) : iRight (iIns l e) :=
  ⟨fun x hx => by
    rcases (iIns_mem l e x).1 hx with rfl | hx
    · exact he
    · exact h.1 x hx, iIns_sorted h.2.1 hp, iIns_pairs h.2.2 hp⟩
theorem iUsed_iff (l : List Ent) (p : Int) : iUsed l p = true ↔ ∃ e ∈ l, e.pair = p := by simp [iUsed]
theorem iFreeFrom_spec (l : List Ent) : ∀ (n k : Nat), (iFreeFrom l k n = -1 ∧ ∀ i, k ≤ i → i < k + n → iUsed l i = true) ∨ ∃ i : Nat, k ≤ i ∧ i < k + n ∧ iFreeFrom l k n = i ∧ iUsed l i = false ∧ ∀ j, k ≤ j → j < i → iUsed l j = true
  | 0, k => .inl ⟨rfl, fun i h1 h2 => by omega⟩
  | n + 1, k => by
    unfold iFreeFrom
    cases hu : iUsed l k with
    | true =>
      simp only [if_true]
      rcases iFreeFrom_spec l n (k + 1) with ⟨h, hall⟩ | ⟨i, h1, h2, h3, h4, h5⟩
      · refine .inl ⟨h, fun i hi hi' => ?_⟩
        rcases Nat.lt_or_ge k i with hk | hk
        · exact hall i hk (by omega)
        · obtain rfl : i = k := by omega
          exact hu
      · refine .inr ⟨i, by omega, by omega, h3, h4, fun j hj hj' => ?_⟩
        rcases Nat.lt_or_ge k j with hk | hk
        · exact h5 j hk hj'
        · obtain rfl : j = k := by omega
          exact hu
    | false =>
      simp only [Bool.false_eq_true, if_false]
      exact .inr ⟨k, by omega, by omega, rfl, hu, fun j h1 h2 => by omega⟩

end Go.Proofs.Ytnganglmpcbcbaa
