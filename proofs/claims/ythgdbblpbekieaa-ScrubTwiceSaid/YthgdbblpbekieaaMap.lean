/- A set of numbers in a map of the call's own. -/
import Derived.Test.YthgdbblpbekieaaG3
import Derived.Carry
import Derived.Maps.Own
import Derived.Maps.OwnOps
import Derived.Maps.Views
import Derived.Maps.RangeWalk
namespace Go.Proofs.Ythgdbblpbekieaa
open Go Go.RowKit

def intOk (k : Int) : Prop := -9223372036854775808 ≤ k ∧ k ≤ 9223372036854775807
theorem wf_of {k : Int} (h : intOk k) : (Lit.int .i64 k).wf = true := by
 unfold intOk at h
 simp [Lit.wf, IntKind.min, IntKind.max, IntKind.bits, IntKind.signed] <;> omega
/-- Block b is a map that has just the numbers of S, of at most n entries. -/
def OwnSet (w : World) (b n : Nat) (S : Int → Bool) : Prop :=
 ∃ D : DataW Unit, w.ownsMap Try.prog 3 (plainElem Try.prog 4) b n D ∧ ∀ k, intOk k → D.atKey (.int .i64 k) (.lit (.bool false)) = .lit (.bool (S k))
theorem OwnSet.made (w : World) : OwnSet (w.alloc (.map #[] 0)) w.heap.size 0 (fun _ => false) := ⟨.map [], World.ownsMap_made w _ _ _, fun _ _ => rfl⟩
section
variable {w w' : World} {b n : Nat} {S : Int → Bool}
theorem OwnSet.grown (h : OwnSet w b n S) {row : Option Nat} (hg : w.grownBy w' row) (hne : some b ≠ row) : OwnSet w' b n S := by
 obtain ⟨D, h1, h2⟩ := h
 exact ⟨D, h1.kept hg hne, h2⟩
theorem OwnSet.lt (h : OwnSet w b n S) : b < w.heap.size := by
 obtain ⟨D, h1, _⟩ := h
 exact h1.lt
theorem OwnSet.below {B : Nat} (h : OwnSet w b n S) (k : Below B w w') (hb : b < B) : OwnSet w' b n S := by
 obtain ⟨D, ⟨es, clock, e1, e2, e3, e4⟩, h2⟩ := h
 exact ⟨D, ⟨es, clock, (k.block b hb).trans e1, e2, e3, e4⟩, h2⟩
theorem OwnSet.ext (h : OwnSet w b n S) (k : Ext w w') : OwnSet w' b n S := h.below k h.lt
theorem OwnSet.sub (h : OwnSet w b n S) {n' : Nat} (hn : n ≤ n') : OwnSet w b n' S := by
 obtain ⟨D, h1, h2⟩ := h
 exact ⟨D, h1.mono hn, h2⟩
set_option maxRecDepth 100000 in
theorem bool_inv {v : Value} {x : Bool} {ps : List MemPlace} (h : plainElem (H := Unit) Try.prog 4 v = some (.lit (.bool x), ps)) : v = .bool x := by
 unfold plainElem at h
 rw [Try.underlying4] at h
 cases v <;> simp at h
 rw [h.1]
theorem OwnSet.look (h : OwnSet w b n S) {k : Int} (hk : intOk k) : (Instr.lookup 78 (.map (some b)) (.int .i64 k) false).run Try.prog w = .ok (.bool (S k)) w := by
 obtain ⟨D, h1, h2⟩ := h
 obtain ⟨v, ps, hrun, hv⟩ := h1.lookup (Maps.int_keyed Try.underlying3) Try.underlying78 (Try.zeroValue4 _) (plainElem_bool Try.underlying4 false) (Maps.keyOf_int_mk Try.underlying3 (wf_of hk))
 rw [h2 k hk] at hv
 rw [hrun, bool_inv hv]
end
theorem wpl_mset {w : World} {b n : Nat} {S : Int → Bool} {k : Int} {ops : Array Oper} {rest : List Oper} {o : Oper} {a : Act} {Q : Exit → Act → World → Prop} (hg : o.guard = none) (m x v : Operand) (hop : o.op = Op.mapUpdate 78 m x v)
  (hm : a.eval m = .map (some b)) (h : OwnSet w b n S) (hn : n < maxLen) (hx : a.eval x = .int .i64 k) (hk : intOk k) (hv : a.eval v = .bool true)
  (hK : ∀ w', OwnSet w' b (n + 1) (fun j => S j || decide (j = k)) → w.grownBy w' (some b) → wpList Try.prog ops Q rest (a.put o.dst undef) w') : wpList Try.prog ops Q (o :: rest) a w := by
 obtain ⟨D, h1, h2⟩ := h
 have hD := h1
 refine wpList_mapUpdate_own w hg m x v _ hop _ _ (Maps.int_keyed Try.underlying3) Try.underlying78 _ b n D hm h1 hn _ _ _ hx hv (Maps.keyOf_int_mk Try.underlying3 (wf_of hk)) _ [] (plainElem_bool Try.underlying4 true) fun w' h3 h4 => hK w' ⟨_, h3, fun j hj => ?_⟩ h4
 by_cases e : j = k
 ·subst e
  rw [Maps.atKey_put_same]
  ·simp
  ·obtain ⟨es, clock, _, _, _, rfl⟩ := hD
   exact ⟨_, rfl⟩
  ·trivial
 ·rw [Maps.atKey_put_other]
  ·rw [h2 j hj]
   simp [e]
  ·simp [e]
end Go.Proofs.Ythgdbblpbekieaa

