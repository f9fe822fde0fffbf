/- Disks: words for rows of blocks and rows of late writes; no walk here. -/
import Derived.Test.YtnganglmpcbcbaaBox
import Derived.Test.YtnganglmpcbcbaaLaws
namespace Go.Proofs.Ytnganglmpcbcbaa
open Go Go.RowKit

/-- A value that is a slice of bytes. -/
def ByV (w : World) (B : Nat) (v : Value) (l : List UInt8) : Prop := ∃ A n c, v = .slice A n c ∧ By w B A n c l
/-- A row of blocks. -/
def Blks (w : World) (B : Nat) (A : Option Addr) (n c : Nat) (bs : List (List UInt8)) : Prop :=
  ∃ vs : List Value, vs.length = bs.length ∧ Sl w B 1 A n c vs ∧ ∀ i, i < bs.length → ByV w B (vs.getD i (.bool false)) (bs.getD i [])
def lcells : List (Int × Value) → List Value
  | [] => []
  | p :: r => .int .i64 p.1 :: p.2 :: lcells r
theorem lcells_length : ∀ vs, (lcells vs).length = vs.length * 2
  | [] => rfl
  | p :: r => by simp only [lcells, List.length_cons, lcells_length r]; omega
theorem lcells_fst : ∀ (vs : List (Int × Value)) (i : Nat) (p : Int × Value), vs[i]? = some p → (lcells vs)[i * 2]? = some (.int .i64 p.1)
  | [], i, p, h => by simp at h
  | q :: r, 0, p, h => by simp at h; subst h; rfl
  | q :: r, i + 1, p, h => by
    have := lcells_fst r i p (by simpa using h)
    rw [show (i + 1) * 2 = i * 2 + 1 + 1 by omega]
    simpa [lcells] using this
theorem lcells_snd : ∀ (vs : List (Int × Value)) (i : Nat) (p : Int × Value), vs[i]? = some p → (lcells vs)[i * 2 + 1]? = some p.2
  | [], i, p, h => by simp at h
  | q :: r, 0, p, h => by simp at h; subst h; rfl
  | q :: r, i + 1, p, h => by
    have := lcells_snd r i p (by simpa using h)
    rw [show (i + 1) * 2 + 1 = i * 2 + 1 + 1 + 1 by omega]
    simpa [lcells] using this
theorem lcells_append : ∀ vs us, lcells (vs ++ us) = lcells vs ++ lcells us
  | [], us => rfl
  | p :: r, us => by simp [lcells, lcells_append r us]
/-- A row of late writes. -/
def Lats (w : World) (B : Nat) (A : Option Addr) (n c : Nat) (ls : List (Int × List UInt8)) : Prop :=
  ∃ vs : List (Int × Value), vs.length = ls.length ∧ Sl w B 2 A n c (lcells vs) ∧ ∀ i, i < ls.length → (vs.getD i (0, .bool false)).1 = (ls.getD i (0, [])).1 ∧ ByV w B (vs.getD i (0, .bool false)).2 (ls.getD i (0, [])).2

section
variable {w w' : World} {B B' n c : Nat} {A : Option Addr}
theorem ByV.keep {v : Value} {l : List UInt8} (h : ByV w B v l) (hB : B ≤ B') (hb : Below B w w') : ByV w' B' v l := by
  obtain ⟨A, n, c, rfl, h⟩ := h
  exact ⟨A, n, c, rfl, (Sl.below h hb).more hB⟩
theorem Blks.len {bs : List (List UInt8)} (h : Blks w B A n c bs) : bs.length = n := by
  obtain ⟨vs, e, hs, _⟩ := h
  have := hs.len
  omega
theorem Blks.cap {bs : List (List UInt8)} (h : Blks w B A n c bs) : n ≤ c := by obtain ⟨vs, _, hs, _⟩ := h; exact hs.cap
theorem Blks.max {bs : List (List UInt8)} (h : Blks w B A n c bs) : c ≤ maxLen := by obtain ⟨vs, _, hs, _⟩ := h; exact hs.max
theorem Blks.keep {bs : List (List UInt8)} (h : Blks w B A n c bs) (hB : B ≤ B') (hb : Below B w w') : Blks w' B' A n c bs := by
  obtain ⟨vs, e, hs, hv⟩ := h
  exact ⟨vs, e, (Sl.below hs hb).more hB, fun i hi => (hv i hi).keep hB hb⟩
theorem Blks.below {bs : List (List UInt8)} (h : Blks w B A n c bs) (hb : Below B w w') : Blks w' B A n c bs := h.keep (Nat.le_refl _) hb
theorem Blks.at_ {bs : List (List UInt8)} (h : Blks w B A n c bs) {i : Nat} (hi : i < n) :
    ∃ b o A' n' c', A = some ⟨b, o, none⟩ ∧ b < B ∧ w.cell? ⟨b, o + i, none⟩ = some (.slice A' n' c') ∧ By w B A' n' c' (bs.getD i []) := by
  have hl := h.len
  obtain ⟨vs, e, hs, hv⟩ := h
  obtain ⟨b, o, hA, hb, hc⟩ := Sl.form hs (by omega) (by omega)
  obtain ⟨A', n', c', e', hby⟩ := hv i (by omega)
  refine ⟨b, o, A', n', c', hA, hb, hc i _ ?_, hby⟩
  rw [← e', List.getD_eq_getElem?_getD, List.getElem?_eq_getElem (by omega)]
  rfl
theorem Lats.len {ls : List (Int × List UInt8)} (h : Lats w B A n c ls) : ls.length = n := by
  obtain ⟨vs, e, hs, _⟩ := h
  have := hs.len
  rw [lcells_length] at this
  omega
theorem Lats.cap {ls : List (Int × List UInt8)} (h : Lats w B A n c ls) : n ≤ c := by obtain ⟨vs, _, hs, _⟩ := h; exact hs.cap
theorem Lats.max {ls : List (Int × List UInt8)} (h : Lats w B A n c ls) : c ≤ maxLen := by obtain ⟨vs, _, hs, _⟩ := h; exact hs.max
theorem Lats.keep {ls : List (Int × List UInt8)} (h : Lats w B A n c ls) (hB : B ≤ B') (hb : Below B w w') : Lats w' B' A n c ls := by
  obtain ⟨vs, e, hs, hv⟩ := h
  exact ⟨vs, e, (Sl.below hs hb).more hB, fun i hi => ⟨(hv i hi).1, (hv i hi).2.keep hB hb⟩⟩
theorem Lats.below {ls : List (Int × List UInt8)} (h : Lats w B A n c ls) (hb : Below B w w') : Lats w' B A n c ls := h.keep (Nat.le_refl _) hb
theorem Lats.at_ {ls : List (Int × List UInt8)} (h : Lats w B A n c ls) {i : Nat} (hi : i < n) :
    ∃ b o k A' n' c', A = some ⟨b, o, none⟩ ∧ b < B ∧ w.cell? ⟨b, o + i * 2, none⟩ = some (.int .i64 k) ∧ w.cell? ⟨b, o + (i * 2 + 1), none⟩ = some (.slice A' n' c') ∧ Hid (k = (ls.getD i (0, [])).1) ∧ By w B A' n' c' (ls.getD i (0, [])).2 := by
  have hl := h.len
  obtain ⟨vs, e, hs, hv⟩ := h
  obtain ⟨b, o, hA, hb, hc⟩ := Sl.form hs (by omega) (by omega)
  obtain ⟨hk, A', n', c', e', hby⟩ := hv i (by omega)
  have hvi : vs[i]? = some (vs.getD i (0, .bool false)) := by
    rw [List.getD_eq_getElem?_getD, List.getElem?_eq_getElem (by omega)]
    rfl
  refine ⟨b, o, _, A', n', c', hA, hb, hc _ _ (lcells_fst vs i _ hvi), ?_, hk, hby⟩
  rw [← e']
  exact hc _ _ (lcells_snd vs i _ hvi)
end

end Go.Proofs.Ytnganglmpcbcbaa
