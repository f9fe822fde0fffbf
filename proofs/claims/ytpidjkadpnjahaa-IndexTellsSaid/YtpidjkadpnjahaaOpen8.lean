/- An entry that came in, with its pair's bounds. -/
import Derived.Test.YtpidjkadpnjahaaMO
namespace Go.Proofs.Ytpidjkadpnjahaa
open Go Go.RowKit
section
variable {H : Type} {enc : TypeId × Value → H} {w : World} {base : Nat} {spare : Nat → Bool} {held : Bool}
theorem in_entB {fuel : Nat} {cs : List Value} {x : DataW H × List MemPlace} (h : DataW.trod enc Try.prog w base spare held fuel 74 cs = some x) (hf : Fits Try.prog 74 x.1) :
  ∃ (u : Value) (e : Ent), cs = [.int .i64 e.rcd.kind, .int .i64 e.rcd.key, .int .i64 e.rcd.ver, u, .int .i64 e.pair] ∧ ByT w w.heap.size u e.rcd.data ∧ e.rcd.data.length + 4096 ≤ blim ∧ -9223372036854775808 ≤ e.pair ∧ e.pair ≤ 9223372036854775807 := by
 obtain ⟨u, e, rfl, hb, hz⟩ := in_ent h hf
 obtain ⟨xs, m, _, rfl, hl, hlen, ht⟩ := DataW.trod_struct Try.underlying74 h
 have h1 := ht 1 _ rfl
 obtain ⟨y0, y1, rfl⟩ := len2 xs hlen
 simp only [List.getElem_toArray, List.getElem_cons_zero, List.getElem_cons_succ, cells_int, List.drop_zero, List.drop_succ_cons, List.take_succ_cons, List.take_zero, List.getElem?_cons_zero, List.getElem?_cons_succ] at h1
 obtain ⟨k, ek, hk⟩ := in_int h1
 simp only [List.cons.injEq, and_true, Value.int.injEq, true_and] at ek
 subst ek
 exact ⟨u, e, rfl, hb, hz, hk⟩
end
end Go.Proofs.Ytpidjkadpnjahaa
