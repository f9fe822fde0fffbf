/- The kind of a block, kept by whatever store; a region's relation that keeps a few boxes; disks kept. No walk here. -/
import Derived.Test.YtnganglmpcbcbaaGen2
namespace Go.Proofs.Ytnganglmpcbcbaa
open Go Go.RowKit

/-- Block g holds cells of kind t. -/
def Kd (w : World) (g : Nat) (t : TypeId) : Prop := ∃ cs, w.heap[g]? = some (.cells cs t (0, 0))
section
variable {w w' : World} {g B : Nat} {t : TypeId} {T : List TypeId} {base : Nat}
theorem Box.kd {cs : Array Value} (h : Box w g t cs) : Kd w g t := ⟨cs, h⟩
theorem Kd.set (h : Kd w g t) (p : Addr) (u : Value) : Kd (w.setCell p u) g t := by
  obtain ⟨cs, h⟩ := h
  by_cases e : g = p.block
  · subst e
    unfold Kd World.setCell
    simp [Array.getElem?_modify, h]
  · exact ⟨cs, (Below.heap_setCell w p u g e).trans h⟩
theorem Kd.lt (h : Kd w g t) : g < w.heap.size := by obtain ⟨cs, h⟩ := h; exact (Array.getElem?_eq_some_iff.1 h).1
theorem Kd.ext (h : Kd w g t) (k : Ext w w') : Kd w' g t := by
  have hl := h.lt
  obtain ⟨cs, h⟩ := h
  exact ⟨cs, (k.block g hl).trans h⟩
theorem Kd.alloc (h : Kd w g t) (o : Obj) : Kd (w.alloc o) g t := h.ext (ext_alloc _ _)
theorem Kd.drew (h : Kd w g t) : Kd w.drew g t := h
theorem Kept.setK {a : World} (k : Kept T base a w) (h : Kd w g t) (ht : t ∉ 5 :: T) (hg : base ≤ g) (j : Nat) (u : Value) : Kept T base a (w.setCell ⟨g, j, none⟩ u) := by
  obtain ⟨cs, h⟩ := h
  exact k.trans (Kept.set (cs := cs) h ht hg j u)
theorem Kept.allocK {a : World} (k : Kept T base a w) (o : Obj) : Kept T base a (w.alloc o) := k.trans (.ext (ext_alloc _ _))
theorem Kept.drewK {a : World} (k : Kept T base a w) : Kept T base a w.drew := k.trans (.ext ((Below.refl _ _).drew))
theorem Kept.extK {a : World} (k : Kept T base a w) (h : Ext w w') : Kept T base a w' := k.trans (.ext h)
/-- A store below a row's first block. -/
theorem OwnRow.old {α : Type} {E : El α} {rb : Nat} {v : Value} {xs : List α} (h : OwnRow E w rb base v xs) {t : TypeId} (hk : Kd w g t) (hg : g < rb) (ht : t ∉ [5]) (hg' : base ≤ g) (j : Nat) (u : Value) : OwnRow E (w.setCell ⟨g, j, none⟩ u) rb base v xs := by
  obtain ⟨cs, hk⟩ := hk
  exact h.setOld (cs := cs) hk hg ht hg' j u
end

/-- A post's parts that end in 'Ext w w'': that one first. -/
theorem and_ext {P : Value → Int → Prop} {Q : Value → Int → Prop} {R : Value → Int → Prop} {w w' : World} (h : Ext w w') (k : Ext w w' → ∃ v q, P v q ∧ Q v q ∧ R v q) : ∃ v q, P v q ∧ Q v q ∧ R v q ∧ Ext w w' := by
  obtain ⟨v, q, a, b, c⟩ := k h
  exact ⟨v, q, a, b, c, h⟩
theorem and_ext1 {P : Value → Prop} {R : Value → Prop} {w w' : World} (h : Ext w w') (k : Ext w w' → ∃ v, P v ∧ R v) : ∃ v, P v ∧ R v ∧ Ext w w' := by
  obtain ⟨v, a, c⟩ := k h
  exact ⟨v, a, c, h⟩
/-- Below B nothing turns, nor in the blocks gs. -/
def XK (B : Nat) (gs : List Nat) (a b : World) : Prop := Below B a b ∧ ∀ g ∈ gs, b.heap[g]? = a.heap[g]?
section
variable {B : Nat} {gs : List Nat} {a b c : World}
theorem XK.refl (B : Nat) (gs : List Nat) (a : World) : XK B gs a a := ⟨Below.refl _ _, fun _ _ => rfl⟩
theorem XK.trans (h : XK B gs a b) (k : XK B gs b c) : XK B gs a c := ⟨h.1.trans k.1, fun g hg => (k.2 g hg).trans (h.2 g hg)⟩
theorem XK.ext (h : Ext a b) (hB : B ≤ a.heap.size) (hg : ∀ g ∈ gs, g < a.heap.size) : XK B gs a b := ⟨h.mono hB, fun g hm => h.block g (hg g hm)⟩
theorem XK.grown {row : Option Nat} (h : a.grownBy b row) (hb : Below B a b) (hg : ∀ g ∈ gs, g < a.heap.size ∧ some g ≠ row) : XK B gs a b := ⟨hb, fun g hm => h.block g (hg g hm).1 (hg g hm).2⟩
theorem Box.xk {g : Nat} {t : TypeId} {cs : Array Value} (h : Box a g t cs) (k : XK B gs a b) (hg : g ∈ gs) : Box b g t cs := (k.2 g hg).trans h
/-- X: below B nothing turns, nor in the blocks gs. -/
theorem wp_region_keep {P : Program} {Q : Exit → Act → World → Prop} (B : Nat) (gs : List Nat) {id : Nat} {a : Act} {w : World} {l : List Oper} (n : Nat) (Fs : List Nat) (t : Bool) (hn : l.length = n) (hm : P.follows .mixedOrders = true) (hs : Region.noSelect l.toArray = true)
    (h : wpTree P .any l.toArray (NoPanic Q) (XK B gs) t Fs n (Array.replicate n false) a w.drew) : (Code.region id l.toArray true).wp P Q a w :=
  wp_region_mix _ (XK.refl B gs) (fun _ _ _ h k => h.trans k) n Fs t hn hm hs h
end

section
variable {w w' : World} {rb base : Nat} {v : Value}
theorem OwnRow.kB {xs : List (List UInt8)} (h : OwnRow eBlk w rb base v xs) (k : Kept tD base w w') : OwnRow eBlk w' rb base v xs := h.kept (by decide) (Nat.le_refl _) k
theorem OwnRow.kW {xs : List (Int × List UInt8)} (h : OwnRow eWr w rb base v xs) (k : Kept tD base w w') : OwnRow eWr w' rb base v xs := h.kept (by decide) (Nat.le_refl _) k
theorem OwnRow.form {α : Type} {E : El α} {xs : List α} (h : OwnRow E w rb base v xs) : ∃ A n c, v = .slice A n c ∧ n ≤ c ∧ c ≤ maxLen ∧ Hid (n = xs.length) := by
  obtain ⟨css, hc, ho⟩ := h
  obtain ⟨A, c, rfl, hs⟩ := own_shape ho
  exact ⟨A, _, c, rfl, hs.cap, hs.max, rfl⟩
theorem Row.form {α : Type} {E : El α} {T : List TypeId} {xs : List α} (h : Row E T w base v xs) : ∃ A n c, v = .slice A n c ∧ n ≤ c ∧ c ≤ maxLen ∧ Hid (n = xs.length) := by
  obtain ⟨A, c, rfl, h1, h2⟩ := h.shape
  exact ⟨A, _, c, rfl, h1, h2, rfl⟩
theorem ByT.form {l : List UInt8} (h : ByT w base v l) : ∃ A n c, v = .slice A n c ∧ By w w.heap.size A n c l ∧ Hid (n = l.length) := by
  obtain ⟨A, c, rfl, h0⟩ := h.by_
  exact ⟨A, _, c, rfl, h0, rfl⟩
theorem own_block {rb e size n : Nat} {xs : List Value} (h : w.ownsRow rb e size v n xs) {g : Nat} (hg : v.ownBlock = some g) : Kd w g e := by
  rcases h.2 with ⟨rfl, _⟩ | ⟨g', cap, cur, rfl, _, h2, _⟩
  · cases hg
  · simp only [Value.ownBlock, Option.some.injEq] at hg
    subst hg
    exact ⟨cur, h2⟩
theorem Kd.ne {g g' : Nat} {t t' : TypeId} (h : Kd w g t) (h' : Kd w g' t') (ht : t ≠ t') : g ≠ g' := by
  rintro rfl
  obtain ⟨c, h⟩ := h
  obtain ⟨c', h'⟩ := h'
  rw [h] at h'
  injection h' with h'
  injection h' with _ h'
  exact ht h'
theorem own_ne {rb e size n : Nat} {xs : List Value} {row : Value} (h : w.ownsRow rb e size row n xs) {g : Nat} {t : TypeId} (hk : Kd w g t) (ht : t ≠ e) : some g ≠ row.ownBlock := fun e0 =>
  Kd.ne hk (own_block h e0.symm) ht rfl
end

end Go.Proofs.Ytnganglmpcbcbaa
