/- Values whose blocks rise: each in a block of its own. No walk here. -/
import Derived.Test.YtnganglmpcbcbaaDsk6
namespace Go.Proofs.Ytnganglmpcbcbaa
open Go Go.RowKit

theorem own_unique {w : World} {rb rb' e e' size n : Nat} {v : Value} {xs ys : List Value} (h : w.ownsRow rb e size v n xs) (k : w.ownsRow rb' e' size v n ys) : xs = ys := by
  rcases h with ⟨h0, ⟨rfl, h1⟩ | ⟨g, cap, cur, rfl, _, h2, _, _, _, h3⟩⟩
  · have k0 := k.1
    rw [h1] at h0 k0
    exact (List.eq_nil_of_length_eq_zero (l := xs) (by simpa using h0)).trans (List.eq_nil_of_length_eq_zero (l := ys) (by simpa using k0)).symm
  · rcases k with ⟨k0, ⟨k1, _⟩ | ⟨g', cap', cur', k1, _, k2, _, _, _, k3⟩⟩
    · injection k1 with k1; cases k1
    · injection k1 with k1
      injection k1 with k1
      injection k1 with k1
      subst k1
      rw [h2] at k2
      injection k2 with k2
      injection k2 with k2
      subst k2
      rw [← h3, ← k3]
/-- The blocks of the values rise, and lie from L on and below N. -/
def Inc (L : Nat) (l : List Value) (N : Nat) : Prop := (l.filterMap Value.ownBlock).Pairwise (· < ·) ∧ ∀ g ∈ l.filterMap Value.ownBlock, L ≤ g ∧ g < N
theorem Inc.nil (L N : Nat) : Inc L [] N := ⟨List.Pairwise.nil, fun g hg => by cases hg⟩
theorem Inc.more {L : Nat} {l : List Value} {N N' : Nat} (h : Inc L l N) (hN : N ≤ N') : Inc L l N' := ⟨h.1, fun g hg => ⟨(h.2 g hg).1, Nat.lt_of_lt_of_le (h.2 g hg).2 hN⟩⟩
theorem Inc.snoc {L : Nat} {l : List Value} {N N' : Nat} {u : Value} (h : Inc L l N) (hL : L ≤ N) (hN : N ≤ N') (hu : ∀ g, u.ownBlock = some g → N ≤ g ∧ g < N') : Inc L (l ++ [u]) N' := by
  unfold Inc
  rw [List.filterMap_append]
  cases hb : u.ownBlock with
  | none =>
    have : List.filterMap Value.ownBlock [u] = [] := by simp [hb]
    rw [this, List.append_nil]
    exact h.more hN
  | some g =>
    have : List.filterMap Value.ownBlock [u] = [g] := by simp [hb]
    rw [this]
    obtain ⟨h1, h2⟩ := hu g hb
    refine ⟨?_, fun x hx => ?_⟩
    · rw [List.pairwise_append]
      exact ⟨h.1, List.pairwise_singleton _ _, fun a ha b hb' => by
        rw [List.mem_singleton.1 hb']
        exact Nat.lt_of_lt_of_le (h.2 a ha).2 h1⟩
    · rcases List.mem_append.1 hx with hx | hx
      · exact ⟨(h.2 x hx).1, Nat.lt_of_lt_of_le (h.2 x hx).2 hN⟩
      · rw [List.mem_singleton.1 hx]; exact ⟨Nat.le_trans hL h1, h2⟩
theorem Inc.low {L : Nat} {l : List Value} {N i g : Nat} {a : Value} (h : Inc L l N) (hi : l[i]? = some a) (ha : a.ownBlock = some g) : L ≤ g :=
  (h.2 g (List.mem_filterMap.2 ⟨a, List.mem_of_getElem? hi, ha⟩)).1
/-- Two of them lie in two blocks. -/
theorem Inc.ne {L : Nat} {l : List Value} {N i j g : Nat} {a b : Value} (h : Inc L l N) (hij : i ≠ j) (hi : l[i]? = some a) (hj : l[j]? = some b) (ha : a.ownBlock = some g) : b.ownBlock ≠ some g := by
  intro hb
  have key : ∀ (l : List Value) (i j : Nat) (a b : Value), (l.filterMap Value.ownBlock).Pairwise (· < ·) → i < j → l[i]? = some a → l[j]? = some b → a.ownBlock = some g → b.ownBlock = some g → False := by
    intro l
    induction l with
    | nil => intro i j a b _ _ hi; simp at hi
    | cons x l ih =>
      intro i j a b hp hlt hi hj ha hb
      obtain ⟨j, rfl⟩ : ∃ j', j = j' + 1 := ⟨j - 1, by omega⟩
      have hj' : l[j]? = some b := by simpa using hj
      cases i with
      | zero =>
        have : x = a := by simpa using hi
        subst this
        rw [List.filterMap_cons, ha] at hp
        have hm : g ∈ l.filterMap Value.ownBlock := List.mem_filterMap.2 ⟨b, List.mem_of_getElem? hj', hb⟩
        exact absurd ((List.pairwise_cons.1 hp).1 g hm) (Nat.lt_irrefl _)
      | succ i =>
        refine ih i j a b ?_ (by omega) (by simpa using hi) hj' ha hb
        rw [List.filterMap_cons] at hp
        split at hp
        · exact hp
        · exact (List.pairwise_cons.1 hp).2
  rcases Nat.lt_or_gt_of_ne hij with hlt | hlt
  · exact key l i j a b h.1 hlt hi hj ha hb
  · exact key l j i b a h.1 hlt hj hi hb ha
/-- A disk's bytes lie each in a block of its own. -/
def Apart (L : Nat) (w : World) (v : Value) : Prop :=
  ∃ b l n m vs us, v = .agg #[b, l] ∧ w.ownsRow 0 22 1 b n vs ∧ w.ownsRow 0 60 2 l m (lcells us) ∧ Inc L (vs ++ us.map Prod.snd) w.heap.size
theorem own_lt {w : World} {rb e size n : Nat} {v : Value} {xs : List Value} (h : w.ownsRow rb e size v n xs) : ∀ g, v.ownBlock = some g → rb ≤ g ∧ g < w.heap.size := fun g hg => h.lt g hg

end Go.Proofs.Ytnganglmpcbcbaa
