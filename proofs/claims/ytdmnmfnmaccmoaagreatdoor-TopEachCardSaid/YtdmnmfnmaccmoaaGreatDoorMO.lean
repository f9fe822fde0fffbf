/- Texts laid together: words, plain laws and walks of the program's functions (MO). -/
import Derived.Test.YtdmnmfnmaccmoaaGreatDoorG3
import Derived.Carry
import Derived.Maps.Own
import Derived.Maps.OwnOps
import Derived.Maps.Views
import Derived.Maps.RangeWalk
/- A set of numbers in a map of the call's own. -/
namespace Go.Proofs.YtdmnmfnmaccmoaaGreatDoor
open Go Go.RowKit
def intOk (k : Int) : Prop := -9223372036854775808 ≤ k ∧ k ≤ 9223372036854775807
theorem wf_of {k : Int} (h : intOk k) : (Lit.int .i64 k).wf = true := by
 unfold intOk at h
 simp [Lit.wf, IntKind.min, IntKind.max, IntKind.bits, IntKind.signed] <;> omega
def OwnSet (w : World) (b n : Nat) (S : Int → Bool) : Prop :=
 ∃ D : DataW Unit, w.ownsMap Tryz.prog 3 (plainElem Tryz.prog 4) b n D ∧ ∀ k, intOk k → D.atKey (.int .i64 k) (.lit (.bool false)) = .lit (.bool (S k))
theorem OwnSet.made (w : World) : OwnSet (w.alloc (.map #[] 0)) w.heap.size 0 (fun _ => false) := ⟨.map [], World.ownsMap_made w _ _ _, fun _ _ => rfl⟩
section
variable {w w' : World} {b n : Nat} {S : Int → Bool}
theorem OwnSet.grown (h : OwnSet w b n S) {row : Option Nat} (hg : w.grownBy w' row) (hne : some b ≠ row) : OwnSet w' b n S := by
 obtain ⟨D, h1, h2⟩ := h
 exact ⟨D, h1.kept hg hne, h2⟩
theorem OwnSet.lt (h : OwnSet w b n S) : b < w.heap.size := by
 obtain ⟨D, h1, _⟩ := h
 exact h1.lt
theorem OwnSet.below {B : Nat} (h : OwnSet w b n S) (k : Below B w w') (hb : b < B) : OwnSet w' b n S := by
 obtain ⟨D, ⟨es, clock, e1, e2, e3, e4⟩, h2⟩ := h
 exact ⟨D, ⟨es, clock, (k.block b hb).trans e1, e2, e3, e4⟩, h2⟩
theorem OwnSet.ext (h : OwnSet w b n S) (k : Ext w w') : OwnSet w' b n S := h.below k h.lt
theorem OwnSet.sub (h : OwnSet w b n S) {n' : Nat} (hn : n ≤ n') : OwnSet w b n' S := by
 obtain ⟨D, h1, h2⟩ := h
 exact ⟨D, h1.mono hn, h2⟩
set_option maxRecDepth 100000 in
theorem bool_inv {v : Value} {x : Bool} {ps : List MemPlace} (h : plainElem (H := Unit) Tryz.prog 4 v = some (.lit (.bool x), ps)) : v = .bool x := by
 unfold plainElem at h
 rw [Tryz.underlying4] at h
 cases v <;> simp at h
 rw [h.1]
theorem OwnSet.look (h : OwnSet w b n S) {k : Int} (hk : intOk k) : (Instr.lookup 139 (.map (some b)) (.int .i64 k) false).run Tryz.prog w = .ok (.bool (S k)) w := by
 obtain ⟨D, h1, h2⟩ := h
 obtain ⟨v, ps, hrun, hv⟩ := h1.lookup (Maps.int_keyed Tryz.underlying3) Tryz.underlying139 (Tryz.zeroValue4 _) (plainElem_bool Tryz.underlying4 false) (Maps.keyOf_int_mk Tryz.underlying3 (wf_of hk))
 rw [h2 k hk] at hv
 rw [hrun, bool_inv hv]
end
theorem wpl_mset {w : World} {b n : Nat} {S : Int → Bool} {k : Int} {ops : Array Oper} {rest : List Oper} {o : Oper} {a : Act} {Q : Exit → Act → World → Prop} (hg : o.guard = none) (m x v : Operand) (hop : o.op = Op.mapUpdate 139 m x v)
  (hm : a.eval m = .map (some b)) (h : OwnSet w b n S) (hn : n < maxLen) (hx : a.eval x = .int .i64 k) (hk : intOk k) (hv : a.eval v = .bool true)
  (hK : ∀ w', OwnSet w' b (n + 1) (fun j => S j || decide (j = k)) → w.grownBy w' (some b) → wpList Tryz.prog ops Q rest (a.put o.dst undef) w') : wpList Tryz.prog ops Q (o :: rest) a w := by
 obtain ⟨D, h1, h2⟩ := h
 have hD := h1
 refine wpList_mapUpdate_own w hg m x v _ hop _ _ (Maps.int_keyed Tryz.underlying3) Tryz.underlying139 _ b n D hm h1 hn _ _ _ hx hv (Maps.keyOf_int_mk Tryz.underlying3 (wf_of hk)) _ [] (plainElem_bool Tryz.underlying4 true) fun w' h3 h4 => hK w' ⟨_, h3, fun j hj => ?_⟩ h4
 by_cases e : j = k
 ·subst e
  rw [Maps.atKey_put_same]
  ·simp
  ·obtain ⟨es, clock, _, _, _, rfl⟩ := hD
   exact ⟨_, rfl⟩
  ·trivial
 ·rw [Maps.atKey_put_other]
  ·rw [h2 j hj]
   simp [e]
  ·simp [e]
end Go.Proofs.YtdmnmfnmaccmoaaGreatDoor
/- An argument's reading, opened: rows of entries, entries, steps. -/
namespace Go.Proofs.YtdmnmfnmaccmoaaGreatDoor
open Go Go.RowKit Go.ChangeShapes Go.WideShapes Go.ChangeAt
theorem len5 {α : Type} : ∀ (l : List α), l.length = 5 → ∃ a b c d e, l = [a, b, c, d, e]
 | [a, b, c, d, e], _ => ⟨a, b, c, d, e, rfl⟩
theorem len7 {α : Type} : ∀ (l : List α), l.length = 7 → ∃ a b c d e f g, l = [a, b, c, d, e, f, g]
 | [a, b, c, d, e, f, g], _ => ⟨a, b, c, d, e, f, g, rfl⟩
def eStp : El Stp where
 ty := 39
 size := 7
 pos := by decide
 d := ⟨0, 0, 0, ⟨0, 0, 0, []⟩⟩
 R P cs x := ∃ v, cs = [.int .i64 x.kind, .int .i64 x.n, .int .i64 x.m, .int .i64 x.deed.kind, .int .i64 x.deed.key, .int .i64 x.deed.n, v] ∧ P v x.deed.data
 len := by rintro P cs x ⟨v, rfl, _⟩; rfl
 mono := by rintro P Q cs x h ⟨v, rfl, k⟩; exact ⟨v, rfl, h _ _ k⟩
 one := by
  rintro P cs x h ⟨v, rfl, k⟩ u hu
  simp only [List.mem_cons, List.not_mem_nil, or_false] at hu
  rcases hu with rfl | rfl | rfl | rfl | rfl | rfl | rfl
  ·rfl
  ·rfl
  ·rfl
  ·rfl
  ·rfl
  ·rfl
  ·exact h _ _ k
section
variable {H : Type} {enc : TypeId × Value → H} {w : World} {base : Nat} {spare : Nat → Bool} {held : Bool}
theorem cells_ent : Tryz.prog.cellsOf 78 = 5 := by kernel_rfl
theorem cells_stp : Tryz.prog.cellsOf 39 = 7 := by kernel_rfl
theorem in_ent {fuel : Nat} {cs : List Value} {x : DataW H × List MemPlace} (h : DataW.trod enc Tryz.prog w base spare held fuel 78 cs = some x) (hf : Fits Tryz.prog 78 x.1) :
  ∃ (u : Value) (e : Ent), cs = [.int .i64 e.rcd.kind, .int .i64 e.rcd.key, .int .i64 e.rcd.ver, u, .int .i64 e.pair] ∧ ByT w w.heap.size u e.rcd.data ∧ e.rcd.data.length + 4096 ≤ blim := by
 obtain ⟨xs, m, _, rfl, hl, hlen, ht⟩ := DataW.trod_struct Tryz.underlying78 h
 have h0 := ht 0 _ rfl
 have h1 := ht 1 _ rfl
 rw [cells_ent] at hl
 obtain ⟨y0, y1, rfl⟩ := len2 xs hlen
 obtain ⟨a, b, c, d, e, rfl⟩ := len5 cs hl
 simp only [List.getElem_toArray, List.getElem_cons_zero, List.getElem_cons_succ, cells_int, cells_rec, List.drop_zero, List.drop_succ_cons, List.take_succ_cons, List.take_zero, List.getElem?_cons_zero, List.getElem?_cons_succ] at h0 h1
 obtain ⟨A, n, cp, r, er, hr⟩ := in_rec h0 (fits_field hf Tryz.underlying78 0 rfl rfl)
 obtain ⟨k, ek, hk⟩ := in_int h1
 simp only [List.cons.injEq, and_true] at er ek
 obtain ⟨rfl, rfl, rfl, rfl⟩ := er
 subst ek
 exact ⟨_, ⟨r, k⟩, rfl, ByT.of_by hr.at_ (Nat.le_refl _) (Nat.le_refl _), by have := hr.at_.len; have := hr.small; simp only; omega⟩
theorem in_entR (n : Nat) (cs : List Value) (y : DataW H × List MemPlace) (h : DataW.trod enc Tryz.prog w base spare held n eEnt.ty cs = some y) (hf : Fits Tryz.prog eEnt.ty y.1) : ∃ x, eEnt.R (ByT w w.heap.size) cs x ∧ x.rcd.data.length + 4096 ≤ blim := by
 obtain ⟨u, e, rfl, hb, hz⟩ := in_ent h hf
 exact ⟨e, ⟨_, rfl, hb⟩, hz⟩
theorem in_ents {T : List TypeId} {fuel : Nat} {cs : List Value} {x : DataW H × List MemPlace} (h : DataW.trod enc Tryz.prog w base spare held fuel 28 cs = some x) (hf : Fits Tryz.prog 28 x.1) :
  ∃ v xs, cs = [v] ∧ Row eEnt T w w.heap.size v xs ∧ ∀ y ∈ xs, y.rcd.data.length + 4096 ≤ blim :=
 in_row eEnt Tryz.underlying28 (by kernel_rfl) _ in_entR h hf
theorem in_step {fuel : Nat} {cs : List Value} {x : DataW H × List MemPlace} (h : DataW.trod enc Tryz.prog w base spare held fuel 39 cs = some x) (hf : Fits Tryz.prog 39 x.1) :
  ∃ (u : Value) (s : Stp), cs = [.int .i64 s.kind, .int .i64 s.n, .int .i64 s.m, .int .i64 s.deed.kind, .int .i64 s.deed.key, .int .i64 s.deed.n, u] ∧ ByT w w.heap.size u s.deed.data ∧ s.deed.data.length + 4096 ≤ blim := by
 obtain ⟨xs, m, _, rfl, hl, hlen, ht⟩ := DataW.trod_struct Tryz.underlying39 h
 have h0 := ht 0 _ rfl
 have h1 := ht 1 _ rfl
 have h2 := ht 2 _ rfl
 have h3 := ht 3 _ rfl
 rw [cells_stp] at hl
 obtain ⟨y0, y1, y2, y3, rfl⟩ := len4 xs hlen
 obtain ⟨a, b, c, d, e, f, g, rfl⟩ := len7 cs hl
 simp only [List.getElem_toArray, List.getElem_cons_zero, List.getElem_cons_succ, cells_int, cells_deed, List.drop_zero, List.drop_succ_cons, List.take_succ_cons, List.take_zero, List.getElem?_cons_zero, List.getElem?_cons_succ] at h0 h1 h2 h3
 obtain ⟨k0, e0, _⟩ := in_int h0
 obtain ⟨k1, e1, _⟩ := in_int h1
 obtain ⟨k2, e2, _⟩ := in_int h2
 obtain ⟨a3, b3, c3, u3, dd, e3, hd, hz⟩ := in_deed h3 (fits_field hf Tryz.underlying39 3 rfl rfl)
 obtain ⟨u, eu, hu⟩ := hd
 simp only [List.cons.injEq, and_true, Value.agg.injEq, Array.mk.injEq] at e0 e1 e2 e3 eu
 obtain ⟨rfl, rfl, rfl, rfl⟩ := e3
 obtain ⟨rfl, rfl, rfl, rfl⟩ := eu
 subst e0 e1 e2
 exact ⟨_, ⟨k0, k1, k2, dd⟩, rfl, hu, hz⟩
theorem in_stepR (n : Nat) (cs : List Value) (y : DataW H × List MemPlace) (h : DataW.trod enc Tryz.prog w base spare held n eStp.ty cs = some y) (hf : Fits Tryz.prog eStp.ty y.1) : ∃ x, eStp.R (ByT w w.heap.size) cs x ∧ x.deed.data.length + 4096 ≤ blim := by
 obtain ⟨u, e, rfl, hb, hz⟩ := in_step h hf
 exact ⟨e, ⟨_, rfl, hb⟩, hz⟩
theorem in_steps {T : List TypeId} {fuel : Nat} {cs : List Value} {x : DataW H × List MemPlace} (h : DataW.trod enc Tryz.prog w base spare held fuel 59 cs = some x) (hf : Fits Tryz.prog 59 x.1) :
  ∃ v xs, cs = [v] ∧ Row eStp T w w.heap.size v xs ∧ ∀ y ∈ xs, y.deed.data.length + 4096 ≤ blim :=
 in_row eStp Tryz.underlying59 (by kernel_rfl) _ in_stepR h hf
end
end Go.Proofs.YtdmnmfnmaccmoaaGreatDoor
