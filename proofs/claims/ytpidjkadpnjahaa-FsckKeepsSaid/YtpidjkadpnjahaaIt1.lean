/- Plain: what the statement IndexTells reckons of its own. -/
import Derived.Test.YtpidjkadpnjahaaA5
import Derived.Test.YtpidjkadpnjahaaMO
namespace Go.Proofs.Ytpidjkadpnjahaa
open Go Go.RowKit
def lastI (l : List Ent) (key : Int) : Nat → Int
 | 0 => -1
 | a + 1 => if (l.getD a ⟨rZero, 0⟩).rcd.key = key then (a : Int) else lastI l key a
def findI (l : List Ent) (key ver : Int) : Nat → Int
 | 0 => -1
 | a + 1 => if (l.getD a ⟨rZero, 0⟩).rcd.key = key ∧ (l.getD a ⟨rZero, 0⟩).rcd.ver = ver ∧ findI l key ver a < 0 then (a : Int) else findI l key ver a
theorem lastI_spec (l : List Ent) (key : Int) : ∀ a : Nat, (lastI l key a = -1 ∧ ∀ j, j < a → (l.getD j ⟨rZero, 0⟩).rcd.key ≠ key) ∨ ∃ i : Nat, i < a ∧ lastI l key a = i ∧ (l.getD i ⟨rZero, 0⟩).rcd.key = key ∧ ∀ j, i < j → j < a → (l.getD j ⟨rZero, 0⟩).rcd.key ≠ key
 | 0 => .inl ⟨rfl, fun j hj => by omega⟩
 | a + 1 => by
  unfold lastI
  split
  ·rename_i h
   exact .inr ⟨a, by omega, rfl, h, fun j h1 h2 => by omega⟩
  ·rename_i h
   rcases lastI_spec l key a with ⟨h1, h2⟩ | ⟨i, h1, h2, h3, h4⟩
   ·exact .inl ⟨h1, fun j hj => if e : j = a then by rw [e]; exact h else h2 j (by omega)⟩
   ·exact .inr ⟨i, by omega, h2, h3, fun j h5 h6 => if e : j = a then by rw [e]; exact h else h4 j h5 (by omega)⟩
theorem findI_spec (l : List Ent) (key ver : Int) : ∀ a : Nat, (findI l key ver a = -1 ∧ ∀ j, j < a → pFind key ver (l.getD j ⟨rZero, 0⟩) = false) ∨ ∃ i : Nat, i < a ∧ findI l key ver a = i ∧ pFind key ver (l.getD i ⟨rZero, 0⟩) = true ∧ ∀ j, j < i → pFind key ver (l.getD j ⟨rZero, 0⟩) = false
 | 0 => .inl ⟨rfl, fun j hj => by omega⟩
 | a + 1 => by
  unfold findI
  rcases findI_spec l key ver a with ⟨h1, h2⟩ | ⟨i, h1, h2, h3, h4⟩
  ·by_cases h : (l.getD a ⟨rZero, 0⟩).rcd.key = key ∧ (l.getD a ⟨rZero, 0⟩).rcd.ver = ver
   ·rw [if_pos ⟨h.1, h.2, by omega⟩]
    exact .inr ⟨a, by omega, rfl, by simp only [pFind, decide_eq_true h.1, decide_eq_true h.2]; rfl, h2⟩
   ·rw [if_neg (fun hh => h ⟨hh.1, hh.2.1⟩)]
    refine .inl ⟨h1, fun j hj => ?_⟩
    by_cases e : j = a
    ·subst e
     unfold pFind
     by_cases h5 : (l.getD j ⟨rZero, 0⟩).rcd.key = key
     ·rw [decide_eq_false (fun h6 => h ⟨h5, h6⟩), Bool.and_false]
     ·rw [decide_eq_false h5, Bool.false_and]
    ·exact h2 j (by omega)
  ·rw [if_neg (fun hh => by have := hh.2.2; omega)]
   exact .inr ⟨i, by omega, h2, h3, h4⟩
theorem findI_bd (l : List Ent) (key ver : Int) (a : Nat) : -1 ≤ findI l key ver a ∧ findI l key ver a < a := by
 rcases findI_spec l key ver a with ⟨h, _⟩ | ⟨i, h1, h2, _⟩ <;> omega
theorem lastI_last {l : List Ent} {key : Int} : (lastI l key l.length = -1 ∧ iLast l key = none) ∨ ∃ i : Nat, i < l.length ∧ lastI l key l.length = i ∧ iLast l key = some (l.getD i ⟨rZero, 0⟩) := by
 rcases lastI_spec l key l.length with ⟨h1, h2⟩ | ⟨i, h1, h2, h3, h4⟩
 ·exact .inl ⟨h1, iLast_none h2⟩
 ·exact .inr ⟨i, h1, h2, iLast_some h1 h3 h4⟩
theorem findI_find {l : List Ent} {key ver : Int} : (findI l key ver l.length = -1 ∧ iFind l key ver = none) ∨ ∃ i : Nat, i < l.length ∧ findI l key ver l.length = i ∧ iFind l key ver = some (l.getD i ⟨rZero, 0⟩) := by
 rcases findI_spec l key ver l.length with ⟨h1, h2⟩ | ⟨i, h1, h2, h3, h4⟩
 ·exact .inl ⟨h1, find_no h2⟩
 ·exact .inr ⟨i, h1, h2, find_hit h1 h4 h3⟩
def restTo (l : List Ent) (p : Int) (a : Nat) : List Ent := (l.take a).filter fun e => !decide (e.pair = p)
theorem rest_hit {l : List Ent} {p : Int} {a : Nat} (ha : a < l.length) (h : (l.getD a ⟨rZero, 0⟩).pair = p) : restTo l p (a + 1) = restTo l p a := take_hit (p := fun e => decide (e.pair = p)) ha (by simpa using h)
theorem rest_miss {l : List Ent} {p : Int} {a : Nat} (ha : a < l.length) (h : (l.getD a ⟨rZero, 0⟩).pair ≠ p) : restTo l p (a + 1) = restTo l p a ++ [l.getD a ⟨rZero, 0⟩] := take_miss (p := fun e => decide (e.pair = p)) ha (by simpa using h)
theorem rest_len (l : List Ent) (p : Int) (a : Nat) : (restTo l p a).length ≤ l.length := by
 refine Nat.le_trans (List.length_filter_le _ _) ?_
 rw [List.length_take]
 omega
def usedTo (l : List Ent) (a : Nat) (p : Int) : Bool := (l.take a).any fun e => decide (e.pair = p)
theorem used_step {l : List Ent} {a : Nat} (ha : a < l.length) : usedTo l (a + 1) = fun p => usedTo l a p || decide (p = (l.getD a ⟨rZero, 0⟩).pair) := by
 funext p
 unfold usedTo
 rw [← Cs_getD ha, List.any_append]
 simp only [List.any_cons, List.any_nil, Bool.or_false]
 congr 1
 exact decide_eq_decide.2 eq_comm
theorem used_all (l : List Ent) (p : Int) : usedTo l l.length p = iUsed l p := by unfold usedTo iUsed; rw [List.take_length]
theorem free_bound {l : List Ent} {a : Nat} (h : ∀ j : Nat, j < a → iUsed l j = true) : a ≤ l.length := by
 obtain ⟨h1, h2, h3⟩ := free_found (l := l) (l.length + 1) (by omega)
 obtain ⟨x, hx⟩ : ∃ x : Nat, iFree l ((l.length + 1 : Nat) : Int) = x := ⟨(iFree l ((l.length + 1 : Nat) : Int)).toNat, by omega⟩
 rw [hx] at h1 h2 h3
 rcases Nat.lt_or_ge x a with hlt | hge
 ·obtain ⟨e, he, hp⟩ := (iUsed_iff l _).1 (h x hlt)
  exact absurd hp (h3 e he)
 ·omega
theorem free_eq {l : List Ent} {a : Nat} {p : Int} (h : ∀ j : Nat, j < a → iUsed l j = true) (h1 : iUsed l a = false) : iFree l p = if p ≤ (a : Int) then -1 else (a : Int) := by
 split
 ·rename_i hp
  exact free_none h hp
 ·rename_i hp
  exact free_some h h1 (by omega)
end Go.Proofs.Ytpidjkadpnjahaa
