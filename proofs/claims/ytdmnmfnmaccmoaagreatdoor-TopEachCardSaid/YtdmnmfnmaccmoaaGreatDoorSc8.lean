/- Walks: scref6.Play. -/
import Derived.Test.YtdmnmfnmaccmoaaGreatDoorSc7
import Derived.Test.YtdmnmfnmaccmoaaGreatDoorMO
import Derived.Deep.Cut
import Derived.Deep.CutRange
namespace Go.Proofs.YtdmnmfnmaccmoaaGreatDoor
open Go Go.RowKit
theorem Row.stp_x {T : List TypeId} {w : World} {base n c : Nat} {A : Option Addr} {l : List Stp} (h : Row eStp T w base (.slice A n c) l) {i : Nat} (hi : i < n) :
  ∃ b o u, A = some ⟨b, o, none⟩ ∧ b < w.heap.size ∧ ByT w base u (l.getD i eStp.d).deed.data ∧ ∀ w', Ext w w' → w'.cell? ⟨b, o + i * 7, none⟩ = some (.int .i64 (l.getD i eStp.d).kind) ∧ w'.cell? ⟨b, o + i * 7 + 1, none⟩ = some (.int .i64 (l.getD i eStp.d).n) ∧
   w'.cell? ⟨b, o + i * 7 + 2, none⟩ = some (.int .i64 (l.getD i eStp.d).m) ∧ w'.cell? ⟨b, o + i * 7 + 3, none⟩ = some (.int .i64 (l.getD i eStp.d).deed.kind) ∧ w'.cell? ⟨b, o + i * 7 + 4, none⟩ = some (.int .i64 (l.getD i eStp.d).deed.key) ∧
   w'.cell? ⟨b, o + i * 7 + 5, none⟩ = some (.int .i64 (l.getD i eStp.d).deed.n) ∧ w'.cell? ⟨b, o + i * 7 + 6, none⟩ = some u := by
 obtain ⟨b, o, cs, rfl, hb, _, ⟨u, rfl, hu⟩, hc⟩ := h.at_ hi
 exact ⟨b, o, u, rfl, hb, hu, fun w' hx => ⟨(hx.cell (p := ⟨b, _, none⟩) hb).trans (hc 0 _ rfl), (hx.cell (p := ⟨b, _, none⟩) hb).trans (hc 1 _ rfl), (hx.cell (p := ⟨b, _, none⟩) hb).trans (hc 2 _ rfl), (hx.cell (p := ⟨b, _, none⟩) hb).trans (hc 3 _ rfl), (hx.cell (p := ⟨b, _, none⟩) hb).trans (hc 4 _ rfl), (hx.cell (p := ⟨b, _, none⟩) hb).trans (hc 5 _ rfl), (hx.cell (p := ⟨b, _, none⟩) hb).trans (hc 6 _ rfl)⟩⟩
theorem OwnRow.keptT {α : Type} {E : El α} {T : List TypeId} {w w' : World} {rb base base' : Nat} {v : Value} {xs : List α} (k : OwnRow E w rb base v xs) (hg : w.grownBy w' v.ownBlock) (hT : E.ty ∉ 5 :: T) (hb : base' ≤ rb) : Kept T base' w w' := by
 obtain ⟨css, hc, ho⟩ := k
 exact Kept.app ho hg hT hb
end Go.Proofs.YtdmnmfnmaccmoaaGreatDoor
