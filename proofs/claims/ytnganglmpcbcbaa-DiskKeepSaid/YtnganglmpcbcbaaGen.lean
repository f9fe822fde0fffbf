/- Data in memory by kinds of blocks: bytes and rows that lie below a base, or in blocks of listed kinds; kept as long as those blocks are. No walk here. -/
import Derived.Test.YtnganglmpcbcbaaBox
import Derived.Test.YtnganglmpcbcbaaLaws
import Derived.Test.YtnganglmpcbcbaaRec
namespace Go.Proofs.Ytnganglmpcbcbaa
open Go Go.RowKit

/-- Block b lies below the base, or holds cells of a listed kind. -/
def Fp (T : List TypeId) (w : World) (base b : Nat) : Prop := b < base ∨ ∃ cur, ∃ t, t ∈ 5 :: T ∧ w.heap[b]? = some (.cells cur t (0, 0))
/-- Such blocks are kept. -/
structure Kept (T : List TypeId) (base : Nat) (w w' : World) : Prop where
  size : w.heap.size ≤ w'.heap.size
  block : ∀ b, b < w.heap.size → Fp T w base b → w'.heap[b]? = w.heap[b]?

section
variable {T T' : List TypeId} {base base' b : Nat} {w w' w'' : World}
theorem Fp.kept (h : Fp T w base b) (hb : b < w.heap.size) (k : Kept T base w w') : Fp T w' base b := by
  rcases h with h | ⟨cur, t, ht, e⟩
  · exact .inl h
  · exact .inr ⟨cur, t, ht, (k.block b hb (.inr ⟨cur, t, ht, e⟩)).trans e⟩
theorem Fp.sub (h : Fp T w base b) (hT : T ⊆ T') (hb : base ≤ base') : Fp T' w base' b := by
  rcases h with h | ⟨cur, t, ht, e⟩
  · exact .inl (by omega)
  · exact .inr ⟨cur, t, List.cons_subset_cons _ hT ht, e⟩
theorem Kept.refl (T : List TypeId) (base : Nat) (w : World) : Kept T base w w := ⟨Nat.le_refl _, fun _ _ _ => rfl⟩
theorem Kept.trans (h : Kept T base w w') (k : Kept T base w' w'') : Kept T base w w'' :=
  ⟨Nat.le_trans h.size k.size, fun b hb hf => (k.block b (Nat.lt_of_lt_of_le hb h.size) (hf.kept hb h)).trans (h.block b hb hf)⟩
theorem Kept.ext (h : Ext w w') : Kept T base w w' := ⟨h.size, fun b hb _ => h.block b hb⟩
theorem Kept.sub (h : Kept T base w w') (hT : T' ⊆ T) (hb : base' ≤ base) : Kept T' base' w w' := ⟨h.size, fun b hl hf => h.block b hl (hf.sub hT hb)⟩
theorem Kept.set {g : Nat} {t : TypeId} {cs : Array Value} (hb : Box w g t cs) (ht : t ∉ 5 :: T) (hg : base ≤ g) (j : Nat) (u : Value) : Kept T base w (w.setCell ⟨g, j, none⟩ u) :=
  ⟨by rw [size_set]; exact Nat.le_refl _, fun b _ hf => Below.heap_setCell _ _ _ _ (by
    intro e0
    have e1 : b = g := e0
    rw [e1] at hf
    rcases hf with h | ⟨cur, t', ht', e⟩
    · omega
    · rw [show w.heap[g]? = _ from hb] at e
      injection e with e
      injection e with _ e
      subst e
      exact ht ht')⟩
theorem Kept.grown {row : Option Nat} (hg : w.grownBy w' row) (hr : ∀ g, row = some g → base ≤ g ∧ ∀ cur t, t ∈ 5 :: T → w.heap[g]? ≠ some (.cells cur t (0, 0))) : Kept T base w w' :=
  ⟨hg.size, fun b hb hf => hg.block b hb fun e => by
    obtain ⟨h1, h2⟩ := hr b e.symm
    rcases hf with h | ⟨cur, t, ht, e'⟩
    · omega
    · exact h2 cur t ht e'⟩
theorem Kept.app {rb e size n : Nat} {v : Value} {xs : List Value} (ho : w.ownsRow rb e size v n xs) (hg : w.grownBy w' v.ownBlock) (he : e ∉ 5 :: T) (hb : base ≤ rb) : Kept T base w w' :=
  Kept.grown hg fun g hgg => by
    rcases ho.2 with ⟨rfl, _⟩ | ⟨g', cap, cur, rfl, h1, h2, _⟩
    · cases hgg
    · simp only [Value.ownBlock, Option.some.injEq] at hgg
      subst hgg
      refine ⟨by omega, fun cur' t ht e' => ?_⟩
      rw [h2] at e'
      injection e' with e'
      injection e' with _ e'
      subst e'
      exact he ht
end

/-- A slice's cells, in such blocks. -/
def SlT (T : List TypeId) (w : World) (base size : Nat) (A : Option Addr) (n c : Nat) (xs : List Value) : Prop :=
  Sl w w.heap.size size A n c xs ∧ (0 < n → ∀ ad, A = some ad → Fp T w base ad.block)
section
variable {T T' : List TypeId} {base base' size n c : Nat} {A : Option Addr} {xs : List Value} {w w' : World}
theorem SlT.kept (h : SlT T w base size A n c xs) (k : Kept T base w w') : SlT T w' base size A n c xs := by
  obtain ⟨hs, hf⟩ := h
  have hne : ∀ ad, 0 < n → A = some ad → ad.block < w.heap.size ∧ w'.heap[ad.block]? = w.heap[ad.block]? := by
    intro ad hn e
    obtain ⟨ad', e', hb, _⟩ := hs.at_ hn
    rw [e] at e'
    injection e' with e'
    subst e'
    exact ⟨hb, k.block _ hb (hf hn _ e)⟩
  refine ⟨⟨hs.len, hs.cap, hs.max, fun hn => ?_⟩, fun hn ad e => (hf hn ad e).kept (hne ad hn e).1 k⟩
  obtain ⟨ad, e, hb, hc⟩ := hs.at_ hn
  exact ⟨ad, e, Nat.lt_of_lt_of_le hb k.size, fun j u hu => (World.cell?_of_block (w := w) (a := ad.add j) (by rw [block_of_add]; exact (hne ad hn e).2)).trans (hc j u hu)⟩
theorem SlT.sub (h : SlT T w base size A n c xs) (hT : T ⊆ T') (hb : base ≤ base') : SlT T' w base' size A n c xs := ⟨h.1, fun hn ad e => (h.2 hn ad e).sub hT hb⟩
theorem SlT.of_sl {B : Nat} (h : Sl w B size A n c xs) (hB : B ≤ base) (hB' : B ≤ w.heap.size) : SlT T w base size A n c xs := by
  refine ⟨h.more hB', fun hn ad e => ?_⟩
  obtain ⟨ad', e', hb, _⟩ := h.at_ hn
  rw [e] at e'
  injection e' with e'
  subst e'
  exact .inl (by omega)
theorem SlT.of_own {rb e : Nat} (h : w.ownsRow rb e size (.slice A n c) n xs) (he : e ∈ 5 :: T) : SlT T w base size A n c xs := by
  refine ⟨Sl.of_own h, fun hn ad e' => ?_⟩
  subst e'
  rcases h.2 with ⟨h1, _⟩ | ⟨g, cap, cur, h1, _, hg, _⟩
  · injection h1 with h1; cases h1
  · injection h1 with h1
    injection h1 with h1
    subst h1
    exact .inr ⟨cur, e, he, hg⟩
theorem SlT.all (h : SlT T w base size A n c xs) : SlT T' w w.heap.size size A n c xs := SlT.of_sl h.1 (Nat.le_refl _) (Nat.le_refl _)
end

/-- A value that is a slice of bytes, below the base or in a block of bytes. -/
def ByT (w : World) (base : Nat) (v : Value) (l : List UInt8) : Prop := ∃ A n c, v = .slice A n c ∧ SlT [] w base 1 A n c (u8s l)
section
variable {T : List TypeId} {base base' : Nat} {v : Value} {l : List UInt8} {w w' : World}
theorem Kept.bytes (h : Kept T base w w') (hb : base' ≤ base) : Kept [] base' w w' := h.sub (List.nil_subset _) hb
theorem ByT.kept (h : ByT w base v l) (k : Kept T base w w') : ByT w' base v l := by
  obtain ⟨A, n, c, e, h⟩ := h
  exact ⟨A, n, c, e, h.kept (k.bytes (Nat.le_refl _))⟩
theorem ByT.sub (h : ByT w base v l) (hb : base ≤ base') : ByT w base' v l := by
  obtain ⟨A, n, c, e, h⟩ := h
  exact ⟨A, n, c, e, h.sub (List.Subset.refl _) hb⟩
theorem ByT.all (h : ByT w base v l) : ByT w w.heap.size v l := by
  obtain ⟨A, n, c, e, h⟩ := h
  exact ⟨A, n, c, e, h.all⟩
theorem ByT.of_by {B n c : Nat} {A : Option Addr} (h : By w B A n c l) (hB : B ≤ base) (hB' : B ≤ w.heap.size) : ByT w base (.slice A n c) l := ⟨A, n, c, rfl, SlT.of_sl h hB hB'⟩
theorem ByT.of_own {rb n : Nat} (h : w.ownsRow rb 5 1 v n (u8s l)) : ByT w base v l := by
  obtain ⟨A, c, rfl, hs⟩ := own_shape h
  exact ⟨A, n, c, rfl, SlT.of_own h (by simp)⟩
theorem ByT.by_ (h : ByT w base v l) : ∃ A c, v = .slice A l.length c ∧ By w w.heap.size A l.length c l := by
  obtain ⟨A, n, c, rfl, hs, _⟩ := h
  have hl : l.length = n := By.len hs
  subst hl
  exact ⟨A, c, rfl, hs⟩
theorem ByT.nil (w : World) (base : Nat) : ByT w base (.slice none 0 0) [] := ⟨none, 0, 0, rfl, Sl.nil_ _ _ _, fun h => absurd h (by omega)⟩
end

/-- A kind of elements. -/
structure El (α : Type) where
  ty : TypeId
  size : Nat
  pos : 0 < size
  d : α
  R : (Value → List UInt8 → Prop) → List Value → α → Prop
  len : ∀ {P cs x}, R P cs x → cs.length = size
  mono : ∀ {P Q : Value → List UInt8 → Prop} {cs x}, (∀ v l, P v l → Q v l) → R P cs x → R Q cs x
  one : ∀ {P : Value → List UInt8 → Prop} {cs x}, (∀ v l, P v l → v.oneCell' = true) → R P cs x → ∀ u ∈ cs, u.oneCell' = true
theorem ByT.one {w : World} {base : Nat} (v : Value) (l : List UInt8) (h : ByT w base v l) : v.oneCell' = true := by
  obtain ⟨A, n, c, rfl, _⟩ := h
  rfl

def eBlk : El (List UInt8) where
  ty := 22
  size := 1
  pos := by decide
  d := []
  R P cs x := ∃ v, cs = [v] ∧ P v x
  len := by rintro P cs x ⟨v, rfl, _⟩; rfl
  mono := by rintro P Q cs x h ⟨v, rfl, k⟩; exact ⟨v, rfl, h _ _ k⟩
  one := by
    rintro P cs x h ⟨v, rfl, k⟩ u hu
    obtain rfl : u = v := by simpa using hu
    exact h _ _ k
def eWr : El (Int × List UInt8) where
  ty := 60
  size := 2
  pos := by decide
  d := (0, [])
  R P cs x := ∃ v, cs = [.int .i64 x.1, v] ∧ P v x.2
  len := by rintro P cs x ⟨v, rfl, _⟩; rfl
  mono := by rintro P Q cs x h ⟨v, rfl, k⟩; exact ⟨v, rfl, h _ _ k⟩
  one := by
    rintro P cs x h ⟨v, rfl, k⟩ u hu
    simp only [List.mem_cons, List.not_mem_nil, or_false] at hu
    rcases hu with rfl | rfl
    · rfl
    · exact h _ _ k
def eRec : El Rec where
  ty := 32
  size := 4
  pos := by decide
  d := rZero
  R P cs x := ∃ v, cs = [.int .i64 x.kind, .int .i64 x.key, .int .i64 x.ver, v] ∧ P v x.data
  len := by rintro P cs x ⟨v, rfl, _⟩; rfl
  mono := by rintro P Q cs x h ⟨v, rfl, k⟩; exact ⟨v, rfl, h _ _ k⟩
  one := by
    rintro P cs x h ⟨v, rfl, k⟩ u hu
    simp only [List.mem_cons, List.not_mem_nil, or_false] at hu
    rcases hu with rfl | rfl | rfl | rfl
    · rfl
    · rfl
    · rfl
    · exact h _ _ k
def eEnt : El Ent where
  ty := 85
  size := 5
  pos := by decide
  d := ⟨rZero, 0⟩
  R P cs x := ∃ v, cs = [.int .i64 x.rcd.kind, .int .i64 x.rcd.key, .int .i64 x.rcd.ver, v, .int .i64 x.pair] ∧ P v x.rcd.data
  len := by rintro P cs x ⟨v, rfl, _⟩; rfl
  mono := by rintro P Q cs x h ⟨v, rfl, k⟩; exact ⟨v, rfl, h _ _ k⟩
  one := by
    rintro P cs x h ⟨v, rfl, k⟩ u hu
    simp only [List.mem_cons, List.not_mem_nil, or_false] at hu
    rcases hu with rfl | rfl | rfl | rfl | rfl
    · rfl
    · rfl
    · rfl
    · exact h _ _ k
    · rfl
def eInt : El Int where
  ty := 3
  size := 1
  pos := by decide
  d := 0
  R _ cs x := cs = [.int .i64 x]
  len := by rintro P cs x rfl; rfl
  mono := by rintro P Q cs x _ k; exact k
  one := by
    rintro P cs x _ rfl u hu
    obtain rfl : u = .int .i64 x := by simpa using hu
    rfl
def eErr : El Int where
  ty := 34
  size := 1
  pos := by decide
  d := 0
  R _ cs x := cs = [.int .i64 x]
  len := by rintro P cs x rfl; rfl
  mono := by rintro P Q cs x _ k; exact k
  one := by
    rintro P cs x _ rfl u hu
    obtain rfl : u = .int .i64 x := by simpa using hu
    rfl

/-! ### lists of lists of cells -/
theorem flat_length {size : Nat} : ∀ (css : List (List Value)), (∀ cs ∈ css, cs.length = size) → css.flatten.length = css.length * size
  | [], _ => by simp
  | cs :: r, h => by
    have h1 := h cs (by simp)
    have h2 := flat_length r fun x hx => h x (by simp [hx])
    simp only [List.flatten_cons, List.length_append, List.length_cons, h1, h2, Nat.add_mul, Nat.one_mul]
    omega
theorem flat_at {size : Nat} : ∀ (css : List (List Value)), (∀ cs ∈ css, cs.length = size) → ∀ (i j : Nat), i < css.length → j < size → css.flatten[i * size + j]? = (css.getD i [])[j]?
  | [], _, i, j, hi, _ => by simp at hi
  | cs :: r, h, 0, j, _, hj => by
    have h1 := h cs (by simp)
    simp only [List.flatten_cons, Nat.zero_mul, Nat.zero_add, List.getD_cons_zero]
    rw [List.getElem?_append_left (by omega)]
  | cs :: r, h, i + 1, j, hi, hj => by
    have h1 := h cs (by simp)
    have h2 := flat_at r (fun x hx => h x (by simp [hx])) i j (by simpa using hi) hj
    have e : (i + 1) * size + j = cs.length + (i * size + j) := by rw [h1, Nat.add_mul]; omega
    simp only [List.flatten_cons, List.getD_cons_succ]
    rw [e, List.getElem?_append_right (by omega), Nat.add_sub_cancel_left, h2]

/-- The elements' cells. -/
def Cs {α : Type} (E : El α) (P : Value → List UInt8 → Prop) (css : List (List Value)) (xs : List α) : Prop :=
  css.length = xs.length ∧ ∀ i, i < xs.length → E.R P (css.getD i []) (xs.getD i E.d)
section
variable {α : Type} {E : El α} {P Q : Value → List UInt8 → Prop} {css : List (List Value)} {xs : List α}
theorem Cs.mono (h : Cs E P css xs) (hPQ : ∀ v l, P v l → Q v l) : Cs E Q css xs := ⟨h.1, fun i hi => E.mono hPQ (h.2 i hi)⟩
theorem Cs.mem (h : Cs E P css xs) : ∀ cs ∈ css, ∃ x, E.R P cs x := by
  intro cs hcs
  obtain ⟨i, hi, rfl⟩ := List.getElem_of_mem hcs
  refine ⟨xs.getD i E.d, ?_⟩
  have := h.2 i (by have := h.1; omega)
  rw [List.getD_eq_getElem?_getD, List.getElem?_eq_getElem hi] at this
  exact this
theorem Cs.each (h : Cs E P css xs) : ∀ cs ∈ css, cs.length = E.size := fun cs hcs => by
  obtain ⟨x, hx⟩ := h.mem cs hcs
  exact E.len hx
theorem Cs.flat (h : Cs E P css xs) : css.flatten.length = xs.length * E.size := by rw [flat_length css h.each, h.1]
theorem Cs.nil : Cs E P [] [] := ⟨rfl, fun i hi => absurd hi (by simp)⟩
theorem Cs.one (h : Cs E P css xs) (hP : ∀ v l, P v l → v.oneCell' = true) : ∀ u ∈ css.flatten, u.oneCell' = true := by
  intro u hu
  obtain ⟨cs, hcs, hu⟩ := List.mem_flatten.1 hu
  obtain ⟨x, hx⟩ := h.mem cs hcs
  exact E.one hP hx u hu
theorem getD_app {β : Type} (d : β) (l m : List β) (i : Nat) : (l ++ m).getD i d = if i < l.length then l.getD i d else m.getD (i - l.length) d := by
  split
  · rename_i h
    rw [List.getD_eq_getElem?_getD, List.getElem?_append_left h, ← List.getD_eq_getElem?_getD]
  · rename_i h
    rw [List.getD_eq_getElem?_getD, List.getElem?_append_right (by omega), ← List.getD_eq_getElem?_getD]
theorem Cs.append {css' : List (List Value)} {ys : List α} (h : Cs E P css xs) (k : Cs E P css' ys) : Cs E P (css ++ css') (xs ++ ys) := by
  refine ⟨by simp [h.1, k.1], fun i hi => ?_⟩
  rw [getD_app, getD_app, h.1]
  by_cases hl : i < xs.length
  · rw [if_pos hl, if_pos hl]; exact h.2 i hl
  · rw [if_neg hl, if_neg hl]; exact k.2 _ (by rw [List.length_append] at hi; omega)
theorem Cs.single {cs : List Value} {x : α} (h : E.R P cs x) : Cs E P [cs] [x] := ⟨rfl, fun i hi => by
  obtain rfl : i = 0 := by simpa using hi
  exact h⟩
theorem getD_take {β : Type} (d : β) (l : List β) (k i : Nat) (h : i < k) : (l.take k).getD i d = l.getD i d := by
  rw [List.getD_eq_getElem?_getD, List.getElem?_take, if_pos h, ← List.getD_eq_getElem?_getD]
theorem getD_drop {β : Type} (d : β) (l : List β) (k i : Nat) : (l.drop k).getD i d = l.getD (k + i) d := by
  rw [List.getD_eq_getElem?_getD, List.getElem?_drop, ← List.getD_eq_getElem?_getD]
theorem Cs.take (h : Cs E P css xs) (k : Nat) : Cs E P (css.take k) (xs.take k) := by
  refine ⟨by simp [h.1], fun i hi => ?_⟩
  rw [List.length_take] at hi
  rw [getD_take _ _ _ _ (by omega), getD_take _ _ _ _ (by omega)]
  exact h.2 i (by omega)
theorem Cs.drop (h : Cs E P css xs) (k : Nat) : Cs E P (css.drop k) (xs.drop k) := by
  refine ⟨by simp [h.1], fun i hi => ?_⟩
  rw [List.length_drop] at hi
  rw [getD_drop, getD_drop]
  exact h.2 _ (by omega)
theorem flat_take {size : Nat} : ∀ (css : List (List Value)) (k : Nat), (∀ cs ∈ css, cs.length = size) → (css.take k).flatten = css.flatten.take (k * size)
  | [], k, _ => by simp
  | cs :: r, 0, _ => by simp
  | cs :: r, k + 1, h => by
    have h1 := h cs (by simp)
    have h2 := flat_take r k fun x hx => h x (by simp [hx])
    have e : (k + 1) * size = cs.length + k * size := by rw [h1, Nat.add_mul]; omega
    rw [List.take_succ_cons, List.flatten_cons, List.flatten_cons, h2, e, List.take_length_add_append]
theorem flat_drop {size : Nat} : ∀ (css : List (List Value)) (k : Nat), (∀ cs ∈ css, cs.length = size) → (css.drop k).flatten = css.flatten.drop (k * size)
  | [], k, _ => by simp
  | cs :: r, 0, _ => by simp
  | cs :: r, k + 1, h => by
    have h1 := h cs (by simp)
    have h2 := flat_drop r k fun x hx => h x (by simp [hx])
    have e : (k + 1) * size = cs.length + k * size := by rw [h1, Nat.add_mul]; omega
    rw [List.drop_succ_cons, List.flatten_cons, h2, e, List.drop_length_add_append]
end

/-- A row, in such blocks, its bytes in such blocks too. -/
def Row {α : Type} (E : El α) (T : List TypeId) (w : World) (base : Nat) (v : Value) (xs : List α) : Prop :=
  ∃ A c css, v = .slice A xs.length c ∧ Cs E (ByT w base) css xs ∧ SlT T w base E.size A xs.length c css.flatten
/-- A row of the call's own (from block rb on), its bytes in such blocks. -/
def OwnRow {α : Type} (E : El α) (w : World) (rb base : Nat) (v : Value) (xs : List α) : Prop :=
  ∃ css, Cs E (ByT w base) css xs ∧ w.ownsRow rb E.ty E.size v xs.length css.flatten

section
variable {α : Type} {E : El α} {T T' : List TypeId} {w w' : World} {base base' rb rb' : Nat} {v : Value} {xs : List α}
theorem Row.kept (h : Row E T w base v xs) (k : Kept T base w w') : Row E T w' base v xs := by
  obtain ⟨A, c, css, rfl, hc, hs⟩ := h
  exact ⟨A, c, css, rfl, hc.mono fun _ _ h => h.kept k, hs.kept k⟩
theorem Row.ext (h : Row E T w base v xs) (k : Ext w w') : Row E T w' base v xs := h.kept (.ext k)
theorem Row.sub (h : Row E T w base v xs) (hT : T ⊆ T') (hb : base ≤ base') : Row E T' w base' v xs := by
  obtain ⟨A, c, css, rfl, hc, hs⟩ := h
  exact ⟨A, c, css, rfl, hc.mono fun _ _ h => h.sub hb, hs.sub hT hb⟩
theorem Row.all (h : Row E T w base v xs) : Row E T' w w.heap.size v xs := by
  obtain ⟨A, c, css, rfl, hc, hs⟩ := h
  exact ⟨A, c, css, rfl, hc.mono fun _ _ h => h.all, hs.all⟩
theorem Row.shape (h : Row E T w base v xs) : ∃ A c, v = .slice A xs.length c ∧ xs.length ≤ c ∧ c ≤ maxLen := by
  obtain ⟨A, c, css, rfl, hc, hs⟩ := h
  exact ⟨A, c, rfl, hs.1.cap, hs.1.max⟩
theorem Row.nil (E : El α) (T : List TypeId) (w : World) (base : Nat) : Row E T w base (.slice none 0 0) [] :=
  ⟨none, 0, [], rfl, Cs.nil, Sl.nil_ _ _ _, fun h => absurd h (by simp)⟩
theorem OwnRow.nil (E : El α) (w : World) (rb base : Nat) : OwnRow E w rb base (.slice none 0 0) [] := ⟨[], Cs.nil, own_nil _ _ _ _⟩
theorem Row.at_ {A : Option Addr} {n c : Nat} (h : Row E T w base (.slice A n c) xs) {i : Nat} (hi : i < n) :
    ∃ b o cs, A = some ⟨b, o, none⟩ ∧ b < w.heap.size ∧ Fp T w base b ∧ E.R (ByT w base) cs (xs.getD i E.d) ∧ ∀ j u, cs[j]? = some u → w.cell? ⟨b, o + (i * E.size + j), none⟩ = some u := by
  obtain ⟨A', c', css, e, hc, hs⟩ := h
  injection e with e1 e2 e3
  subst e1 e2 e3
  obtain ⟨b, o, hA, hb, hcell⟩ := Sl.form hs.1 (by omega) E.pos
  have hR := hc.2 i hi
  refine ⟨b, o, _, hA, hb, hs.2 (by omega) _ hA, hR, fun j u hu => hcell _ u ?_⟩
  have hj : j < E.size := by
    rw [← E.len hR]
    rcases Nat.lt_or_ge j (css.getD i []).length with h | h
    · exact h
    · rw [List.getElem?_eq_none h] at hu; cases hu
  rw [flat_at css hc.each i j (by have := hc.1; omega) hj]
  exact hu
theorem own_kept {e size n : Nat} {xs : List Value} (h : w.ownsRow rb e size v n xs) (he : e ∈ 5 :: T) (k : Kept T base w w') : w'.ownsRow rb e size v n xs := by
  refine ⟨h.1, ?_⟩
  rcases h.2 with hn | ⟨g, cap, cur, rfl, h1, hgg, rest⟩
  · exact .inl hn
  · exact .inr ⟨g, cap, cur, rfl, h1, (k.block g (Array.getElem?_eq_some_iff.1 hgg).1 (.inr ⟨cur, e, he, hgg⟩)).trans hgg, rest⟩
theorem OwnRow.kept (h : OwnRow E w rb base v xs) (he : E.ty ∈ 5 :: T) (hb : base ≤ base') (k : Kept T base' w w') : OwnRow E w' rb base v xs := by
  obtain ⟨css, hc, ho⟩ := h
  exact ⟨css, hc.mono fun _ _ h => h.kept (k.bytes hb), own_kept ho he k⟩
theorem OwnRow.ext (h : OwnRow E w rb base v xs) (k : Ext w w') : OwnRow E w' rb base v xs := by
  obtain ⟨css, hc, ho⟩ := h
  exact ⟨css, hc.mono fun _ _ h => h.kept (T := []) (.ext k), own_ext ho k⟩
theorem OwnRow.row (h : OwnRow E w rb base v xs) (he : E.ty ∈ 5 :: T) (hb : base ≤ base') : Row E T w base' v xs := by
  obtain ⟨css, hc, ho⟩ := h
  obtain ⟨A, c, rfl, hs⟩ := own_shape ho
  exact ⟨A, c, css, rfl, hc.mono fun _ _ h => h.sub hb, SlT.of_own ho he⟩
theorem OwnRow.more (h : OwnRow E w rb base v xs) (hb : rb' ≤ rb) (hb' : base ≤ base') : OwnRow E w rb' base' v xs := by
  obtain ⟨css, hc, ho⟩ := h
  exact ⟨css, hc.mono fun _ _ h => h.sub hb', own_more ho hb⟩
theorem OwnRow.shape (h : OwnRow E w rb base v xs) : ∃ A c, v = .slice A xs.length c := by
  obtain ⟨css, hc, ho⟩ := h
  obtain ⟨A, c, rfl, hs⟩ := own_shape ho
  exact ⟨A, c, rfl⟩
/-- One more element, or more, behind append's law. -/
theorem OwnRow.app {css css' : List (List Value)} {v' : Value} {ys : List α} (hc : Cs E (ByT w base) css xs) (ho : w.ownsRow rb E.ty E.size v xs.length css.flatten) (hc' : Cs E (ByT w base) css' ys)
    (ho' : w'.ownsRow rb E.ty E.size v' (xs.length + ys.length) (css.flatten ++ css'.flatten)) (hg : w.grownBy w' v.ownBlock) (he : E.ty ∉ [5]) (hb : base ≤ rb) : OwnRow E w' rb base v' (xs ++ ys) := by
  have k : Kept [] base w w' := Kept.app ho hg he hb
  refine ⟨css ++ css', (hc.append hc').mono fun _ _ h => h.kept k, ?_⟩
  rw [List.flatten_append, List.length_append]
  exact ho'
theorem OwnRow.setOld (h : OwnRow E w rb base v xs) {g : Nat} {t : TypeId} {cs : Array Value} (hb : Box w g t cs) (hg : g < rb) (ht : t ∉ [5]) (hg' : base ≤ g) (j : Nat) (u : Value) : OwnRow E (w.setCell ⟨g, j, none⟩ u) rb base v xs := by
  obtain ⟨css, hc, ho⟩ := h
  exact ⟨css, hc.mono fun _ _ h => h.kept (T := []) (.set hb ht hg' j u), own_set ho hg u⟩
end

end Go.Proofs.Ytnganglmpcbcbaa
