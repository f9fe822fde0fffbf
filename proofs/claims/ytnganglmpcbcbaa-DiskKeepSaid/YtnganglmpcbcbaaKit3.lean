/- Rows read, element by element. No walk here. -/
import Derived.Test.YtnganglmpcbcbaaKit2
namespace Go.Proofs.Ytnganglmpcbcbaa
open Go Go.RowKit

section
variable {T : List TypeId} {w : World} {base n c : Nat} {A : Option Addr}
theorem Row.blk_at {bs : List (List UInt8)} (h : Row eBlk T w base (.slice A n c) bs) {i : Nat} (hi : i < n) :
    ∃ b o u, A = some ⟨b, o, none⟩ ∧ b < w.heap.size ∧ w.cell? ⟨b, o + i, none⟩ = some u ∧ ByT w base u (bs.getD i []) := by
  obtain ⟨b, o, cs, rfl, hb, _, ⟨u, rfl, hu⟩, hc⟩ := h.at_ hi
  refine ⟨b, o, u, rfl, hb, ?_, hu⟩
  have := hc 0 u rfl
  rwa [show i * eBlk.size + 0 = i from by show i * 1 + 0 = i; omega] at this
theorem Row.wr_at {ls : List (Int × List UInt8)} (h : Row eWr T w base (.slice A n c) ls) {i : Nat} (hi : i < n) :
    ∃ b o k u, A = some ⟨b, o, none⟩ ∧ b < w.heap.size ∧ w.cell? ⟨b, o + i * 2, none⟩ = some (.int .i64 k) ∧ w.cell? ⟨b, o + i * 2 + 1, none⟩ = some u ∧ Hid (k = (ls.getD i (0, [])).1) ∧ ByT w base u (ls.getD i (0, [])).2 := by
  obtain ⟨b, o, cs, rfl, hb, _, ⟨u, rfl, hu⟩, hc⟩ := h.at_ hi
  exact ⟨b, o, _, u, rfl, hb, hc 0 _ rfl, hc 1 _ rfl, rfl, hu⟩
theorem Row.rec_at {l : List Rec} (h : Row eRec T w base (.slice A n c) l) {i : Nat} (hi : i < n) :
    ∃ b o u, A = some ⟨b, o, none⟩ ∧ b < w.heap.size ∧ w.cell? ⟨b, o + i * 4, none⟩ = some (.int .i64 (l.getD i rZero).kind) ∧ w.cell? ⟨b, o + i * 4 + 1, none⟩ = some (.int .i64 (l.getD i rZero).key) ∧
      w.cell? ⟨b, o + i * 4 + 2, none⟩ = some (.int .i64 (l.getD i rZero).ver) ∧ w.cell? ⟨b, o + i * 4 + 3, none⟩ = some u ∧ ByT w base u (l.getD i rZero).data := by
  obtain ⟨b, o, cs, rfl, hb, _, ⟨u, rfl, hu⟩, hc⟩ := h.at_ hi
  exact ⟨b, o, u, rfl, hb, hc 0 _ rfl, hc 1 _ rfl, hc 2 _ rfl, hc 3 _ rfl, hu⟩
theorem Row.ent_at {l : List Ent} (h : Row eEnt T w base (.slice A n c) l) {i : Nat} (hi : i < n) :
    ∃ b o u, A = some ⟨b, o, none⟩ ∧ b < w.heap.size ∧ w.cell? ⟨b, o + i * 5, none⟩ = some (.int .i64 (l.getD i ⟨rZero, 0⟩).rcd.kind) ∧ w.cell? ⟨b, o + i * 5 + 1, none⟩ = some (.int .i64 (l.getD i ⟨rZero, 0⟩).rcd.key) ∧
      w.cell? ⟨b, o + i * 5 + 2, none⟩ = some (.int .i64 (l.getD i ⟨rZero, 0⟩).rcd.ver) ∧ w.cell? ⟨b, o + i * 5 + 3, none⟩ = some u ∧ w.cell? ⟨b, o + i * 5 + 4, none⟩ = some (.int .i64 (l.getD i ⟨rZero, 0⟩).pair) ∧
      ByT w base u (l.getD i ⟨rZero, 0⟩).rcd.data := by
  obtain ⟨b, o, cs, rfl, hb, _, ⟨u, rfl, hu⟩, hc⟩ := h.at_ hi
  exact ⟨b, o, u, rfl, hb, hc 0 _ rfl, hc 1 _ rfl, hc 2 _ rfl, hc 3 _ rfl, hc 4 _ rfl, hu⟩
theorem Row.int_at {l : List Int} (h : Row eInt T w base (.slice A n c) l) {i : Nat} (hi : i < n) :
    ∃ b o, A = some ⟨b, o, none⟩ ∧ b < w.heap.size ∧ w.cell? ⟨b, o + i, none⟩ = some (.int .i64 (l.getD i 0)) := by
  obtain ⟨b, o, cs, rfl, hb, _, rfl, hc⟩ := h.at_ hi
  refine ⟨b, o, rfl, hb, ?_⟩
  have := hc 0 _ rfl
  rwa [show i * eInt.size + 0 = i from by show i * 1 + 0 = i; omega] at this
theorem Row.err_at {l : List Int} (h : Row eErr T w base (.slice A n c) l) {i : Nat} (hi : i < n) :
    ∃ b o, A = some ⟨b, o, none⟩ ∧ b < w.heap.size ∧ w.cell? ⟨b, o + i, none⟩ = some (.int .i64 (l.getD i 0)) := by
  obtain ⟨b, o, cs, rfl, hb, _, rfl, hc⟩ := h.at_ hi
  refine ⟨b, o, rfl, hb, ?_⟩
  have := hc 0 _ rfl
  rwa [show i * eErr.size + 0 = i from by show i * 1 + 0 = i; omega] at this
/-- A disk's two rows. -/
theorem DskV.form {v : Value} {d : Dsk} (h : DskV T w base v d) : ∃ A n c E m e, v = .agg #[.slice A n c, .slice E m e] ∧ Hid (n = d.blocks.length) ∧ Hid (m = d.late.length) ∧ Row eBlk T w base (.slice A n c) d.blocks ∧ Row eWr T w base (.slice E m e) d.late ∧ n ≤ c ∧ m ≤ e := by
  obtain ⟨b, l, rfl, hb, hl⟩ := h
  obtain ⟨A, n, c, rfl, h1, _, h2⟩ := hb.form
  obtain ⟨E, m, e, rfl, h3, _, h4⟩ := hl.form
  exact ⟨A, n, c, E, m, e, rfl, h2, h4, hb, hl, h1, h3⟩
end

end Go.Proofs.Ytnganglmpcbcbaa
