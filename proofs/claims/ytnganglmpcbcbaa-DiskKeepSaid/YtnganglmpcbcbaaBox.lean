/- Boxes: whole blocks of the call's own, kept behind calls; results through a cell. No program here. -/
import Derived.Test.YtnganglmpcbcbaaWords
import Derived.Laws.ResultCell
namespace Go.Proofs.Ytnganglmpcbcbaa
open Go Go.RowKit

/-- Block g holds the cells cs, of type t, none frozen. -/
abbrev Box (w : World) (g : Nat) (t : TypeId) (cs : Array Value) : Prop := w.heap[g]? = some (.cells cs t (0, 0))
section
variable {w w' : World} {g B : Nat} {t : TypeId} {cs : Array Value}
theorem Box.cell (h : Box w g t cs) (j : Nat) {v : Value} (hj : cs[j]? = some v) : w.cell? ⟨g, j, none⟩ = some v := by simp [World.cell?, h, hj]
theorem Box.free (h : Box w g t cs) (j : Nat) : w.frozen? ⟨g, j, none⟩ = false := by simp [World.frozen?, h]
theorem Box.lt (h : Box w g t cs) : g < w.heap.size := (Array.getElem?_eq_some_iff.1 h).1
theorem Box.below (h : Box w g t cs) (hb : Below B w w') (hg : g < B) : Box w' g t cs := (hb.block g hg).trans h
theorem Box.ext (h : Box w g t cs) (hb : Ext w w') : Box w' g t cs := h.below hb h.lt
theorem Box.new (w : World) (cs : Array Value) (t : TypeId) {g : Nat} (hg : g = w.heap.size) : Box (w.alloc (.cells cs t)) g t cs := by
  subst hg
  show (w.heap.push _)[w.heap.size]? = _
  simp
theorem Box.alloc (h : Box w g t cs) (o : Obj) : Box (w.alloc o) g t cs := h.ext (ext_alloc _ _)
theorem Box.drew (h : Box w g t cs) : Box w.drew g t cs := h
theorem Box.drewN (h : Box w g t cs) (n : Nat) : Box (w.drewN n) g t cs := h
theorem Box.set (h : Box w g t cs) (j : Nat) (v : Value) : Box (w.setCell ⟨g, j, none⟩ v) g t (cs.setIfInBounds j v) := by
  unfold Box at *
  simp [World.setCell, Array.getElem?_modify, h]
theorem Box.setOther (h : Box w g t cs) {p : Addr} (hp : g ≠ p.block) (v : Value) : Box (w.setCell p v) g t cs := (Below.heap_setCell w p v g hp).trans h
end

theorem own_box {w : World} {g base : Nat} {t : TypeId} {cs : List Value} {n size : Nat} (h : Box w g t cs.toArray) (hb : base ≤ g) (hs : cs.length = n * size) (hn : n ≤ maxLen) : w.ownsRow base t size (.slice (some ⟨g, 0, none⟩) n n) n cs :=
  ⟨hs, .inr ⟨g, n, cs.toArray, rfl, hb, h, Nat.le_refl _, hn, by simpa using hs, by rw [← hs]; simp⟩⟩
theorem own_set {w : World} {base e size n : Nat} {v : Value} {xs : List Value} (h : w.ownsRow base e size v n xs) {p : Addr} (hp : p.block < base) (u : Value) : (w.setCell p u).ownsRow base e size v n xs := by
  refine ⟨h.1, ?_⟩
  rcases h.2 with hn | ⟨g, cap, cur, rfl, h1, hgg, rest⟩
  · exact .inl hn
  · exact .inr ⟨g, cap, cur, rfl, h1, (Below.heap_setCell w p u g (by omega)).trans hgg, rest⟩
theorem own_alloc {w : World} {base e size n : Nat} {v : Value} {xs : List Value} (h : w.ownsRow base e size v n xs) (o : Obj) : (w.alloc o).ownsRow base e size v n xs := own_ext h (ext_alloc _ _)
theorem Sl.alloc {w : World} {B size n c : Nat} {A : Option Addr} {xs : List Value} (h : Sl w B size A n c xs) (hB : B ≤ w.heap.size) (o : Obj) : Sl (w.alloc o) B size A n c xs := Sl.below h ((ext_alloc _ _).mono hB)
theorem Sl.set {w : World} {B size n c : Nat} {A : Option Addr} {xs : List Value} (h : Sl w B size A n c xs) {p : Addr} (hp : B ≤ p.block) (u : Value) : Sl (w.setCell p u) B size A n c xs :=
  Sl.below h ((Below.refl _ _).setCell hp u)
theorem Sl.grown {w w' : World} {B size n c : Nat} {A : Option Addr} {xs : List Value} {row : Option Nat} (h : Sl w B size A n c xs) (hB : B ≤ w.heap.size) (hg : w.grownBy w' row) (hne : ∀ ad, A = some ad → some ad.block ≠ row) : Sl w' B size A n c xs :=
  ⟨h.len, h.cap, h.max, fun hn => by
    obtain ⟨ad, e, hb, hc⟩ := h.at_ hn
    exact ⟨ad, e, hb, fun j u hu => (World.cell?_of_block (w := w) (a := ad.add j) (by rw [block_of_add]; exact hg.block _ (by omega) (hne ad e))).trans (hc j u hu)⟩⟩
theorem size_set (w : World) (p : Addr) (u : Value) : (w.setCell p u).heap.size = w.heap.size := by simp [World.setCell]

theorem results_cell1 {fn : Func} {p : Tmp} {ty : TypeId} (h : fn.results = #[.cell p ty]) (tmps : Array Value) (P : Program) (w : World) :
    (results fn tmps).run P w = ((asAddr (tmps.getD p undef)).run P w).andThen fun a w₁ => (loadVar ty a).run P w₁ := by
  simp only [results, h]
  simp [Sem.run_bind, Result.andThen]


theorem below_drewN {B : Nat} {a w : World} (h : Below B a w) (n : Nat) : Below B a (w.drewN n) := ⟨h.os, h.tape, h.output, h.size, h.block⟩

end Go.Proofs.Ytnganglmpcbcbaa
