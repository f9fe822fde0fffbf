/- Disks of the call's own: rows of blocks, rows of late writes, with their bytes apart from the row. No walk here. -/
import Derived.Test.YtnganglmpcbcbaaDsk2
namespace Go.Proofs.Ytnganglmpcbcbaa
open Go Go.RowKit

/-- A slice of bytes that lies below the base, or in a block of bytes. -/
def ByE (w : World) (base : Nat) (v : Value) (l : List UInt8) : Prop :=
  ∃ A n c, v = .slice A n c ∧ By w w.heap.size A n c l ∧ ∀ ad, A = some ad → ad.block < base ∨ ∃ cur, w.heap[ad.block]? = some (.cells cur 5 (0, 0))
section
variable {w w' : World} {base : Nat} {v : Value} {l : List UInt8}
theorem ByE.ext (h : ByE w base v l) (hb : Ext w w') : ByE w' base v l := by
  obtain ⟨A, n, c, rfl, hy, ha⟩ := h
  refine ⟨A, n, c, rfl, (Sl.below hy hb).more hb.size, fun ad e => ?_⟩
  rcases ha ad e with h1 | ⟨cur, h1⟩
  · exact .inl h1
  · exact .inr ⟨cur, (hb.block _ (Array.getElem?_eq_some_iff.1 h1).1).trans h1⟩
theorem ByE.of_own {n : Nat} (h : w.ownsRow base 5 1 v n (u8s l)) : ByE w base v l := by
  obtain ⟨A, c, rfl, hs⟩ := own_shape h
  refine ⟨A, n, c, rfl, hs, fun ad e => ?_⟩
  subst e
  rcases h.2 with ⟨h1, _⟩ | ⟨g, cap, cur, h1, _, hg, _⟩
  · injection h1 with h1; cases h1
  · injection h1 with h1
    injection h1 with h1
    subst h1
    exact .inr ⟨cur, hg⟩
theorem ByE.of_by {B n c : Nat} {A : Option Addr} (h : By w B A n c l) (hB : B ≤ base) (hB' : B ≤ w.heap.size) (h0 : n = 0 → A = none) : ByE w base (.slice A n c) l := by
  refine ⟨A, n, c, rfl, Sl.more h hB', fun ad e => ?_⟩
  rcases Nat.eq_zero_or_pos n with hn | hn
  · rw [h0 hn] at e; cases e
  · obtain ⟨ad', e', hb, _⟩ := Sl.at_ h hn
    rw [e] at e'
    injection e' with e'
    subst e'
    exact .inl (by omega)
theorem ByE.byV (h : ByE w base v l) : ByV w w.heap.size v l := by
  obtain ⟨A, n, c, rfl, hy, _⟩ := h
  exact ⟨A, n, c, rfl, hy⟩
theorem ByE.more {base' : Nat} (h : ByE w base v l) (hb : base ≤ base') : ByE w base' v l := by
  obtain ⟨A, n, c, rfl, hy, ha⟩ := h
  exact ⟨A, n, c, rfl, hy, fun ad e => (ha ad e).imp (fun h => by omega) id⟩
/-- The row's own block has turned (it holds no bytes, and lies at the base or above). -/
theorem ByE.turned {g : Nat} (h : ByE w base v l) (hsz : w.heap.size ≤ w'.heap.size) (hblk : ∀ k, k < w.heap.size → k ≠ g → w'.heap[k]? = w.heap[k]?) (hg : base ≤ g) (ht : ∀ cur, w.heap[g]? ≠ some (.cells cur 5 (0, 0))) : ByE w' base v l := by
  obtain ⟨A, n, c, rfl, hy, ha⟩ := h
  have hne : ∀ ad, A = some ad → ad.block ≠ g := by
    intro ad e e2
    rcases ha ad e with h1 | ⟨cur, h1⟩
    · omega
    · rw [e2] at h1; exact ht _ h1
  refine ⟨A, n, c, rfl, ⟨Sl.len hy, Sl.cap hy, Sl.max hy, fun hn => ?_⟩, fun ad e => ?_⟩
  · obtain ⟨ad, e, hb, hc⟩ := Sl.at_ hy hn
    exact ⟨ad, e, by omega, fun j u hu => (World.cell?_of_block (w := w) (a := ad.add j) (by rw [block_of_add]; exact hblk _ hb (hne ad e))).trans (hc j u hu)⟩
  · rcases ha ad e with h1 | ⟨cur, h1⟩
    · exact .inl h1
    · exact .inr ⟨cur, (hblk _ (Array.getElem?_eq_some_iff.1 h1).1 (hne ad e)).trans h1⟩
end

/-- A row of blocks of the call's own. -/
def OwnBlks (w : World) (rb base : Nat) (v : Value) (bs : List (List UInt8)) : Prop :=
  ∃ vs, w.ownsRow rb 22 1 v bs.length vs ∧ ∀ i, i < bs.length → ByE w base (vs.getD i (.bool false)) (bs.getD i [])
/-- A row of late writes of the call's own. -/
def OwnLats (w : World) (rb base : Nat) (v : Value) (ls : List (Int × List UInt8)) : Prop :=
  ∃ vs : List (Int × Value), vs.length = ls.length ∧ w.ownsRow rb 60 2 v ls.length (lcells vs) ∧ ∀ i, i < ls.length → (vs.getD i (0, .bool false)).1 = (ls.getD i (0, [])).1 ∧ ByE w base (vs.getD i (0, .bool false)).2 (ls.getD i (0, [])).2

section
variable {w w' : World} {rb base : Nat} {v : Value}
theorem OwnBlks.ext {bs : List (List UInt8)} (h : OwnBlks w rb base v bs) (hb : Ext w w') : OwnBlks w' rb base v bs := by
  obtain ⟨vs, ho, hv⟩ := h
  exact ⟨vs, own_ext ho hb, fun i hi => (hv i hi).ext hb⟩
theorem OwnBlks.shape {bs : List (List UInt8)} (h : OwnBlks w rb base v bs) : ∃ A c, v = .slice A bs.length c ∧ Blks w w.heap.size A bs.length c bs := by
  obtain ⟨vs, ho, hv⟩ := h
  obtain ⟨A, c, rfl, hs⟩ := own_shape ho
  exact ⟨A, c, rfl, vs, by have := ho.1; omega, hs, fun i hi => (hv i hi).byV⟩
theorem OwnBlks.nil (w : World) (rb base : Nat) : OwnBlks w rb base (.slice none 0 0) [] := ⟨[], own_nil _ _ _ _, fun i hi => absurd hi (by simp)⟩
theorem OwnLats.ext {ls : List (Int × List UInt8)} (h : OwnLats w rb base v ls) (hb : Ext w w') : OwnLats w' rb base v ls := by
  obtain ⟨vs, e, ho, hv⟩ := h
  exact ⟨vs, e, own_ext ho hb, fun i hi => ⟨(hv i hi).1, (hv i hi).2.ext hb⟩⟩
theorem OwnLats.shape {ls : List (Int × List UInt8)} (h : OwnLats w rb base v ls) : ∃ A c, v = .slice A ls.length c ∧ Lats w w.heap.size A ls.length c ls := by
  obtain ⟨vs, e, ho, hv⟩ := h
  obtain ⟨A, c, rfl, hs⟩ := own_shape ho
  exact ⟨A, c, rfl, vs, e, hs, fun i hi => ⟨(hv i hi).1, (hv i hi).2.byV⟩⟩
theorem OwnLats.nil (w : World) (rb base : Nat) : OwnLats w rb base (.slice none 0 0) [] := ⟨[], rfl, own_nil _ _ _ _, fun i hi => absurd hi (by simp)⟩
/-- A store into a box of another kind. -/
theorem own_setT {e size n g : Nat} {xs : List Value} {t : TypeId} {cs : Array Value} (h : w.ownsRow rb e size v n xs) (hb : Box w g t cs) (ht : t ≠ e) (j : Nat) (u : Value) : (w.setCell ⟨g, j, none⟩ u).ownsRow rb e size v n xs := by
  refine ⟨h.1, ?_⟩
  rcases h.2 with hn | ⟨g', cap, cur, rfl, h1, hgg, rest⟩
  · exact .inl hn
  · refine .inr ⟨g', cap, cur, rfl, h1, (Below.heap_setCell w ⟨g, j, none⟩ u g' ?_).trans hgg, rest⟩
    rintro rfl
    rw [hb] at hgg
    injection hgg with hgg
    injection hgg with _ hgg
    exact ht hgg
theorem ByE.set {l : List UInt8} {g : Nat} {t : TypeId} {cs : Array Value} (h : ByE w base v l) (hb : Box w g t cs) (ht : t ≠ 5) (hg : base ≤ g) (j : Nat) (u : Value) : ByE (w.setCell ⟨g, j, none⟩ u) base v l :=
  h.turned (g := g) (by rw [size_set]; exact Nat.le_refl _) (fun k _ hne => Below.heap_setCell _ _ _ _ hne) hg (fun cur e0 => by
    rw [hb] at e0
    injection e0 with e0
    injection e0 with _ e0
    exact ht e0)
theorem OwnBlks.set {bs : List (List UInt8)} {g : Nat} {t : TypeId} {cs : Array Value} (h : OwnBlks w rb base v bs) (hb : Box w g t cs) (ht : t ≠ 5) (ht' : t ≠ 22) (hg : base ≤ g) (j : Nat) (u : Value) : OwnBlks (w.setCell ⟨g, j, none⟩ u) rb base v bs := by
  obtain ⟨vs, ho, hv⟩ := h
  exact ⟨vs, own_setT ho hb ht' j u, fun i hi => (hv i hi).set hb ht hg j u⟩
theorem OwnLats.set {ls : List (Int × List UInt8)} {g : Nat} {t : TypeId} {cs : Array Value} (h : OwnLats w rb base v ls) (hb : Box w g t cs) (ht : t ≠ 5) (ht' : t ≠ 60) (hg : base ≤ g) (j : Nat) (u : Value) : OwnLats (w.setCell ⟨g, j, none⟩ u) rb base v ls := by
  obtain ⟨vs, e, ho, hv⟩ := h
  exact ⟨vs, e, own_setT ho hb ht' j u, fun i hi => ⟨(hv i hi).1, (hv i hi).2.set hb ht hg j u⟩⟩
theorem OwnBlks.more {bs : List (List UInt8)} {rb' : Nat} (h : OwnBlks w rb base v bs) (hb : rb' ≤ rb) : OwnBlks w rb' base v bs := by
  obtain ⟨vs, ho, hv⟩ := h
  exact ⟨vs, own_more ho hb, hv⟩
theorem OwnLats.more {ls : List (Int × List UInt8)} {rb' : Nat} (h : OwnLats w rb base v ls) (hb : rb' ≤ rb) : OwnLats w rb' base v ls := by
  obtain ⟨vs, e, ho, hv⟩ := h
  exact ⟨vs, e, own_more ho hb, hv⟩
end

end Go.Proofs.Ytnganglmpcbcbaa
