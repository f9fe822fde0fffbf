/- Plain: what the statement IndexTells reckons of its own. -/
import Derived.Test.YtmcgbdbhpnplmaaGreatA5
import Derived.Test.YtmcgbdbhpnplmaaGreatMO
namespace Go.Proofs.YtmcgbdbhpnplmaaGreat
open Go Go.RowKit
def restTo (l : List Ent) (p : Int) (a : Nat) : List Ent := (l.take a).filter fun e => !decide (e.pair = p)
theorem rest_hit {l : List Ent} {p : Int} {a : Nat} (ha : a < l.length) (h : (l.getD a ⟨rZero, 0⟩).pair = p) : restTo l p (a + 1) = restTo l p a := take_hit (p := fun e => decide (e.pair = p)) ha (by simpa using h)
theorem rest_miss {l : List Ent} {p : Int} {a : Nat} (ha : a < l.length) (h : (l.getD a ⟨rZero, 0⟩).pair ≠ p) : restTo l p (a + 1) = restTo l p a ++ [l.getD a ⟨rZero, 0⟩] := take_miss (p := fun e => decide (e.pair = p)) ha (by simpa using h)
theorem rest_len (l : List Ent) (p : Int) (a : Nat) : (restTo l p a).length ≤ l.length := by
 refine Nat.le_trans (List.length_filter_le _ _) ?_
 rw [List.length_take]
 omega
def usedTo (l : List Ent) (a : Nat) (p : Int) : Bool := (l.take a).any fun e => decide (e.pair = p)
theorem used_step {l : List Ent} {a : Nat} (ha : a < l.length) : usedTo l (a + 1) = fun p => usedTo l a p || decide (p = (l.getD a ⟨rZero, 0⟩).pair) := by
 funext p
 unfold usedTo
 rw [← Cs_getD ha, List.any_append]
 simp only [List.any_cons, List.any_nil, Bool.or_false]
 congr 1
 exact decide_eq_decide.2 eq_comm
theorem used_all (l : List Ent) (p : Int) : usedTo l l.length p = iUsed l p := by unfold usedTo iUsed; rw [List.take_length]
theorem free_bound {l : List Ent} {a : Nat} (h : ∀ j : Nat, j < a → iUsed l j = true) : a ≤ l.length := by
 obtain ⟨h1, h2, h3⟩ := free_found (l := l) (l.length + 1) (by omega)
 obtain ⟨x, hx⟩ : ∃ x : Nat, iFree l ((l.length + 1 : Nat) : Int) = x := ⟨(iFree l ((l.length + 1 : Nat) : Int)).toNat, by omega⟩
 rw [hx] at h1 h2 h3
 rcases Nat.lt_or_ge x a with hlt | hge
 ·obtain ⟨e, he, hp⟩ := (iUsed_iff l _).1 (h x hlt)
  exact absurd hp (h3 e he)
 ·omega
theorem free_eq {l : List Ent} {a : Nat} {p : Int} (h : ∀ j : Nat, j < a → iUsed l j = true) (h1 : iUsed l a = false) : iFree l p = if p ≤ (a : Int) then -1 else (a : Int) := by
 split
 ·rename_i hp
  exact free_none h hp
 ·rename_i hp
  exact free_some h h1 (by omega)
end Go.Proofs.YtmcgbdbhpnplmaaGreat
