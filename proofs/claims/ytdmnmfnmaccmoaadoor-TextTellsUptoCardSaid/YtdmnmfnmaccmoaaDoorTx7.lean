/- Walks of chapter 7: a text cut at its spaces; the map of the kinds' words. -/
import Derived.Test.YtdmnmfnmaccmoaaDoorTx6
import Derived.Carry
import Derived.Maps.Own
import Derived.Maps.OwnOps
import Derived.Maps.Views
namespace Go.Proofs.YtdmnmfnmaccmoaaDoor
open Go Go.RowKit
def strs (l : List (List UInt8)) : List Value := l.map fun u => .string ⟨u.toArray⟩
theorem strs_len (l : List (List UInt8)) : (strs l).length = l.length := by simp [strs]
theorem cut_len : ∀ l : List UInt8, (tCut l).length ≤ l.length + 1
 | [] => by simp [tCut]
 | c :: l => by
  have := cut_len l
  rw [tCut_cons]
  split
  ·simp; omega
  ·simp; omega
theorem cut_le : ∀ l : List UInt8, ∀ u ∈ tCut l, u.length ≤ l.length
 | [], u, h => by simp [tCut] at h; rw [h]; simp
 | c :: l, u, h => by
  have ih := cut_le l
  rw [tCut_cons] at h
  obtain ⟨a, ws, e⟩ := cut_cons l
  rw [e] at ih h
  split at h
  ·rcases List.mem_cons.1 h with rfl | h
   ·simp
   ·have := ih u h; simp; omega
  ·rcases List.mem_cons.1 h with rfl | h
   ·have := ih a (by simp); simp; exact this
   ·have := ih u (by simp at h ⊢; exact .inr h); simp; omega
theorem split_v (l : List UInt8) (hl : l.length ≤ 1000000000) {w : World} (hV : VarT w) :
  Calls Tryd.prog 13 #[.string ⟨l.toArray⟩, .string ⟨#[32]⟩] w fun e w' => e = .returned (.slice (some ⟨w.heap.size, 0, none⟩) (tCut l).length (tCut l).length) ∧ Box w' w.heap.size 9 (strs (tCut l)).toArray ∧ Ext w w' := by
 obtain ⟨m, hm⟩ := hV.max
 have hs := sizeOf_ l
 refine (Any.strings_Split Tryd.lays146 (by kernel_rfl) ⟨l.toArray⟩ ⟨#[32]⟩ m w (by omega) hm (by decide)).mono fun e w' ⟨he, hw⟩ => ?_
 have hd := Lib.splitB_data ⟨#[32]⟩ 0 (Lib.countB ⟨l.toArray⟩ ⟨#[32]⟩) ⟨l.toArray⟩
 have hk : Lib.splitK (ByteArray.mk #[32]).data.toList 0 (Lib.countB ⟨l.toArray⟩ ⟨#[32]⟩) (ByteArray.mk l.toArray).data.toList = tCut l := by
  have := split_cut l
  unfold Lib.countB
  simpa using this
 rw [hk] at hd
 have hn : Lib.countB ⟨l.toArray⟩ ⟨#[32]⟩ + 1 = (tCut l).length := by
  rw [← hd, List.length_map]
  exact (Lib.splitB_all ⟨#[32]⟩ (by decide) 0 _ ⟨l.toArray⟩ rfl).symm
 have hv : (Lib.splitB ⟨#[32]⟩ 0 (Lib.countB ⟨l.toArray⟩ ⟨#[32]⟩) ⟨l.toArray⟩).map Value.string = strs (tCut l) := by
  rw [← hd]
  unfold strs
  rw [List.map_map]
  apply List.map_congr_left
  intro b _
  cases b
  simp
 rw [hn] at he
 rw [hv] at hw
 subst hw
 exact ⟨he, Box.new _ _ _ rfl, ext_alloc _ _⟩
abbrev OwnM (w : World) (b n : Nat) (D : DataW Unit) : Prop := w.ownsMap Tryd.prog 9 (plainElem Tryd.prog 3) b n D
theorem wf_i64 {k : Int} (h0 : -9223372036854775808 ≤ k) (h1 : k ≤ 9223372036854775807) : (Lit.int .i64 k).wf = true := by
 simp [Lit.wf, IntKind.min, IntKind.max, IntKind.bits, IntKind.signed] <;> omega
theorem wpl_ins {w : World} {b n : Nat} {D : DataW Unit} {s : ByteArray} {k : Int} {ops : Array Oper} {rest : List Oper} {o : Oper} {a : Act} {Q : Exit → Act → World → Prop} (hg : o.guard = none) (m x v : Operand) (hop : o.op = Op.insert 35 m x v)
  (hm : a.eval m = .map (some b)) (h : OwnM w b n D) (hn : n < maxLen) (hx : a.eval x = .string s) (hs : s.size ≤ maxLen) (hv : a.eval v = .int .i64 k) (h0 : -9223372036854775808 ≤ k) (h1 : k ≤ 9223372036854775807)
  (hK : ∀ w', OwnM w' b (n + 1) (D.put (.string s.data.toList) (.lit (.int .i64 k))) → w.grownBy w' (some b) → wpList Tryd.prog ops Q rest (a.put o.dst undef) w') : wpList Tryd.prog ops Q (o :: rest) a w := by
 refine wpList_plain hg fun K' hK' => ?_
 obtain ⟨w', hrun, r1, r2⟩ := h.update (Maps.string_keyed Tryd.underlying9) Tryd.underlying35 hn (WideMaps.keyOf_string_mk Tryd.underlying9 hs) (plainElem_int Tryd.underlying3 (wf_i64 h0 h1))
 unfold Oper.wp
 simp [execOp, hop, hm, hx, hv, hrun, Result.andThen]
 exact hK' _ _ (hK w' r1 r2)
def dKinds : DataW Unit := (((DataW.map []).put (.string wPut) (.lit (.int .i64 1))).put (.string wDelete) (.lit (.int .i64 2))).put (.string wPurge) (.lit (.int .i64 3))
theorem at_same {D : DataW Unit} (h : ∃ es, D = .map es) (u : List UInt8) (d z : DataW Unit) : (D.put (.string u) d).atKey (.string u) z = d := Maps.atKey_put_same h (k := .string u) trivial d z
theorem kinds_at (u : List UInt8) : dKinds.atKey (.string u) (.lit (.int .i64 0)) = .lit (.int .i64 (tKind u)) := by
 obtain ⟨h1, h2, h3⟩ : wPurge ≠ wPut ∧ wPurge ≠ wDelete ∧ wDelete ≠ wPut := by decide
 unfold dKinds tKind
 by_cases e3 : u = wPurge
 ·subst e3
  rw [at_same (by exact ⟨_, rfl⟩), if_neg h1, if_neg h2, if_pos rfl]
 ·rw [Maps.atKey_put_other (by simpa using e3), if_neg e3]
  by_cases e2 : u = wDelete
  ·subst e2
   rw [at_same (by exact ⟨_, rfl⟩), if_neg h3, if_pos rfl]
  ·rw [Maps.atKey_put_other (by simpa using e2), if_neg e2]
   by_cases e1 : u = wPut
   ·subst e1
    rw [at_same (by exact ⟨_, rfl⟩), if_pos rfl]
   ·rw [Maps.atKey_put_other (by simpa using e1), if_neg e1]
    rfl
set_option maxRecDepth 100000 in
theorem kind_look {w : World} {b n : Nat} (h : OwnM w b n dKinds) (u : List UInt8) (hu : u.length ≤ 1000000000) : (Instr.lookup 35 (.map (some b)) (.string ⟨u.toArray⟩) false).run Tryd.prog w = .ok (.int .i64 (tKind u)) w := by
 obtain ⟨v, ps, hrun, hv⟩ := h.lookup (Maps.string_keyed Tryd.underlying9) Tryd.underlying35 (Tryd.zeroValue3 _) (plainElem_int Tryd.underlying3 (by decide)) (WideMaps.keyOf_string_mk (s := ⟨u.toArray⟩) Tryd.underlying9 (by rw [sizeOf_]; unfold maxLen; omega))
 have e : (ByteArray.mk u.toArray).data.toList = u := by simp
 rw [e, kinds_at u] at hv
 obtain ⟨a, rfl, hz, _⟩ := plainElem_int_inv Tryd.underlying3 hv
 rw [hrun]
 injection hz with h1 _
 injection h1 with h1
 injection h1 with _ h1
 rw [h1]
end Go.Proofs.YtdmnmfnmaccmoaaDoor
