/- Walks of chapter 7: the document's digits; plain words of the document's Parse. -/
import Derived.Test.YtdmnmfnmaccmoaaDoorTx9
namespace Go.Proofs.YtdmnmfnmaccmoaaDoor
open Go Go.RowKit
def hf (c : UInt8) : Nat → Int
 | 0 => -1
 | k + 1 => if hset.getD k 0 = c then (k : Int) else hf c k
theorem hf_fin : ∀ k : Fin 256, hf (UInt8.ofNat k.val) 16 = ((hval (UInt8.ofNat k.val)).elim (-1 : Int) fun n => (n : Int)) := by decide +kernel
theorem hf_val (c : UInt8) : hf c 16 = ((hval c).elim (-1 : Int) fun n => (n : Int)) := by
 have := hf_fin ⟨c.toNat, c.toNat_lt⟩
 simpa using this
theorem hf_some {c : UInt8} {n : Nat} (h : hval c = some n) : hf c 16 = (n : Int) := by rw [hf_val, h]; rfl
theorem hf_none {c : UInt8} (h : hval c = none) : hf c 16 = -1 := by rw [hf_val, h]; rfl
theorem hset_at : ∀ k : Fin 16, (ByteArray.mk #[48, 49, 50, 51, 52, 53, 54, 55, 56, 57, 97, 98, 99, 100, 101, 102])[k.val]'(k.isLt) = hset.getD k.val 0 := by decide +kernel
def dgo (l : List UInt8) (k r : Nat) : List UInt8 := if r = 0 then unp (l.take (2 * k)) else unp (l.take (2 * k)) ++ [UInt8.ofNat (16 * (hval (l.getD (2 * k) 0)).getD 0)]
theorem dgo_len {l : List UInt8} {k r : Nat} (h : 2 * k + r ≤ l.length) (hr : r < 2) : (dgo l k r).length = k + r := by
 unfold dgo
 split
 ·rw [unp_len k l (by omega)]; omega
 ·rw [List.length_append, unp_len k l (by omega)]; simp; omega
theorem dgo_odd {l : List UInt8} {k : Nat} (h : 2 * k + 1 < l.length) {x y : Nat} (hx : hval (l.getD (2 * k) 0) = some x) (hy : hval (l.getD (2 * k + 1) 0) = some y) :
  (dgo l k 1).getD k 0 = UInt8.ofNat (16 * x) ∧ (dgo l k 1).set k (UInt8.ofNat (16 * x + y)) = dgo l (k + 1) 0 := by
 have hl := unp_len k l (by omega)
 have e : dgo l k 1 = unp (l.take (2 * k)) ++ [UInt8.ofNat (16 * x)] := by unfold dgo; rw [if_neg (by decide), hx]; rfl
 have e2 : dgo l (k + 1) 0 = unp (l.take (2 * k)) ++ [UInt8.ofNat (16 * x + y)] := by unfold dgo; rw [if_pos rfl, unp_succ k l h, hx, hy]; rfl
 rw [e, e2]
 constructor
 ·rw [List.getD_eq_getElem?_getD, List.getElem?_append_right (by omega), hl]
  simp
 ·rw [List.set_append_right _ _ (by omega), hl]
  simp
theorem unHex_bad {l : List UInt8} {j : Nat} (h45 : l ≠ [45]) (hj : j < l.length) (h : hval (l.getD j 0) = none) : unHex l = none := by
 unfold unHex
 rw [if_neg h45, if_neg (by intro e; rw [e] at hj; simp at hj)]
 cases hp : unpair l with
 | none => rfl
 | some b =>
  have := (unpair_bad l b hp).2 (l.getD j 0) (by rw [List.getD_eq_getElem?_getD, List.getElem?_eq_getElem hj]; exact List.getElem_mem _)
  rw [h] at this
  cases this
theorem unHex_odd {l : List UInt8} (h45 : l ≠ [45]) (h : l.length % 2 = 1) : unHex l = none := by
 unfold unHex
 rw [if_neg h45, if_neg (by intro e; rw [e] at h; simp at h)]
 cases hp : unpair l with
 | none => rfl
 | some b =>
  have := (unpair_bad l b hp).1
  omega
theorem unHex_all {l : List UInt8} (h45 : l ≠ [45]) (h0 : l ≠ []) (h : l.length % 2 = 0) (ha : ∀ j, j < l.length → (hval (l.getD j 0)).isSome = true) : unHex l = some (unp l) := by
 unfold unHex
 rw [if_neg h45, if_neg h0]
 refine unpair_all l h fun c hc => ?_
 obtain ⟨j, hj, rfl⟩ := List.getElem_of_mem hc
 have := ha j hj
 rwa [List.getD_eq_getElem?_getD, List.getElem?_eq_getElem hj] at this
theorem cut_snoc : ∀ p : List UInt8, ∃ D x, tCut p = D ++ [x] ∧ ∀ c, tCut (p ++ [c]) = if c = 32 then D ++ [x, []] else D ++ [x ++ [c]]
 | [] => ⟨[], [], rfl, fun c => by
  show tCut [c] = _
  rw [tCut_cons]
  split <;> rfl⟩
 | a :: p => by
  obtain ⟨D, x, h1, h2⟩ := cut_snoc p
  by_cases ha : a = 32
  ·refine ⟨[] :: D, x, by rw [tCut_cons, if_pos ha, h1]; rfl, fun c => ?_⟩
   show tCut (a :: (p ++ [c])) = _
   rw [tCut_cons, if_pos ha, h2 c]
   split <;> rfl
  ·cases D with
   | nil =>
    refine ⟨[], a :: x, by rw [tCut_cons, if_neg ha, h1]; rfl, fun c => ?_⟩
    show tCut (a :: (p ++ [c])) = _
    rw [tCut_cons, if_neg ha, h2 c]
    split <;> rfl
   | cons d D =>
    refine ⟨(a :: d) :: D, x, by rw [tCut_cons, if_neg ha, h1]; rfl, fun c => ?_⟩
    show tCut (a :: (p ++ [c])) = _
    rw [tCut_cons, if_neg ha, h2 c]
    split <;> rfl
def CutTo (l : List UInt8) (j f : Nat) (D : List (List UInt8)) : Prop := f ≤ j ∧ j ≤ l.length ∧ tCut (l.take j) = D ++ [(l.take j).drop f]
theorem cutTo_zero (l : List UInt8) : CutTo l 0 0 [] := ⟨Nat.le_refl _, Nat.zero_le _, rfl⟩
theorem take_snoc {l : List UInt8} {j : Nat} (h : j < l.length) : l.take (j + 1) = l.take j ++ [l.getD j 0] := by
 rw [List.take_succ_eq_append_getElem h, List.getD_eq_getElem?_getD, List.getElem?_eq_getElem h]
 rfl
theorem cutTo_space {l : List UInt8} {j f : Nat} {D : List (List UInt8)} (h : CutTo l j f D) (hj : j < l.length) (hc : l.getD j 0 = 32) : CutTo l (j + 1) (j + 1) (D ++ [(l.take j).drop f]) := by
 obtain ⟨h1, h2, h3⟩ := h
 obtain ⟨D', x, e1, e2⟩ := cut_snoc (l.take j)
 rw [e1] at h3
 obtain ⟨rfl, e3⟩ := List.append_inj' h3 rfl
 refine ⟨Nat.le_refl _, hj, ?_⟩
 rw [take_snoc hj, e2, if_pos hc]
 have : (l.take j ++ [l.getD j 0]).drop (j + 1) = [] := List.drop_eq_nil_of_le (by simp; omega)
 rw [this]
 injection e3 with e3
 rw [e3]
 simp
theorem cutTo_other {l : List UInt8} {j f : Nat} {D : List (List UInt8)} (h : CutTo l j f D) (hj : j < l.length) (hc : l.getD j 0 ≠ 32) : CutTo l (j + 1) f D := by
 obtain ⟨h1, h2, h3⟩ := h
 obtain ⟨D', x, e1, e2⟩ := cut_snoc (l.take j)
 rw [e1] at h3
 obtain ⟨rfl, e3⟩ := List.append_inj' h3 rfl
 refine ⟨by omega, hj, ?_⟩
 rw [take_snoc hj, e2, if_neg hc, List.drop_append_of_le_length (by rw [List.length_take]; omega)]
 injection e3 with e3
 rw [e3]
theorem cutTo_end {l : List UInt8} {f : Nat} {D : List (List UInt8)} (h : CutTo l l.length f D) : tCut l = D ++ [l.drop f] := by
 have := h.2.2
 rwa [List.take_of_length_le (Nat.le_refl _)] at this
theorem cutTo_len {l : List UInt8} {j f : Nat} {D : List (List UInt8)} (h : CutTo l j f D) : D.length ≤ j := by
 have h1 := cut_len (l.take j)
 rw [h.2.2, List.length_append, List.length_take] at h1
 have : ([(l.take j).drop f] : List (List UInt8)).length = 1 := rfl
 omega
theorem extract_is {t : ByteArray} {l : List UInt8} (ht : t.data.toList = l) {f j : Nat} : t.extract f j = ⟨((l.take j).drop f).toArray⟩ := by
 have e : (t.extract f j).data.toList = (l.take j).drop f := by
  rw [ByteArray.data_extract, Array.toList_extract, ht, List.extract_eq_take_drop, List.drop_take]
 have e' : (t.extract f j).data = ((l.take j).drop f).toArray := Array.toList_inj.1 (by rw [e])
 cases hx : t.extract f j
 rw [hx] at e'
 exact congrArg _ e'
theorem info_str : (Tryd.prog.info? 9).map (fun i => (i.zero, i.size, i.bytes)) = some (some (.string ⟨#[]⟩), 1, 16) := by kernel_rfl
section
variable {ops : Array Oper} {rest : List Oper} {o : Oper} {a : Act} {K : Act → World → Prop} {Q : Exit → Act → World → Prop} {E : Prop}
theorem wp_app_str {w : World} (s x : Operand)
  (ho : o.op = .call { callee := .builtin .append, args := #[s, x], argTypes := #[33, 33] })
  (base : Nat) (v : Value) (n : Nat) (xs : List Value) (hs : a.eval s = v) (hown : w.ownsRow base 9 1 v n xs)
  (B : Nat) (A : Option Addr) (m c : Nat) (news : List Value) (hx : a.eval x = .slice A m c) (hr : Sl w B 1 A m c news) (h1 : ∀ u ∈ news, u.oneCell' = true)
  (hlim : n + m ≤ 2000000000) (hbase : base ≤ w.heap.size)
  (h : ∀ v' w', w'.ownsRow base 9 1 v' (n + m) (xs ++ news) → w.grownBy w' v.ownBlock → Below base w w' → (v'.ownBlock = v.ownBlock ∨ v'.ownBlock = some w.heap.size) → K (a.put o.dst v') w') : o.wp Tryd.prog a w K Q := by
 obtain ⟨i0, hi, hz0, hz1, hz2⟩ := info_parts info_str
 exact wp_app w s x 33 ho base 9 i0 _ 1 16 Tryd.underlying33 hi hz0 hz1 hz2 rfl (by decide) v n xs hs hown B A m c news hx hr h1 (by unfold maxLen; omega) (by omega) hbase h
theorem app_str {w : World} (hgd : o.guard = none) (s x : Operand)
  (ho : o.op = .call { callee := .builtin .append, args := #[s, x], argTypes := #[33, 33] })
  (base : Nat) (v : Value) (n : Nat) (xs : List Value) (hs : a.eval s = v) (hown : w.ownsRow base 9 1 v n xs)
  (B : Nat) (A : Option Addr) (m c : Nat) (news : List Value) (hx : a.eval x = .slice A m c) (hr : Sl w B 1 A m c news) (h1 : ∀ u ∈ news, u.oneCell' = true)
  (hlim : n + m ≤ 2000000000) (hbase : base ≤ w.heap.size)
  (h : ∀ v' w', w'.ownsRow base 9 1 v' (n + m) (xs ++ news) → w.grownBy w' v.ownBlock → Below base w w' → (v'.ownBlock = v.ownBlock ∨ v'.ownBlock = some w.heap.size) → wpList Tryd.prog ops Q rest (a.put o.dst v') w') : wpList Tryd.prog ops Q (o :: rest) a w :=
 wpList_plain hgd fun _ hK => wp_app_str s x ho base v n xs hs hown B A m c news hx hr h1 hlim hbase fun v' w' h2 h3 h4 h5 => hK _ _ (h v' w' h2 h3 h4 h5)
end
def kLit : Nat → List UInt8
 | 0 => []
 | 1 => wPut
 | 2 => wDelete
 | _ => wPurge
def kf (a : List UInt8) : Nat → Int
 | 0 => 0
 | k + 1 => if 0 < k ∧ kLit k = a then (k : Int) else kf a k
theorem kf_four (a : List UInt8) : kf a 4 = tKind a := by
 obtain ⟨h1, h2, h3⟩ : wPurge ≠ wPut ∧ wPurge ≠ wDelete ∧ wDelete ≠ wPut := by decide
 have k0 : kf a 1 = 0 := if_neg fun h => Nat.lt_irrefl _ h.1
 have k1 : kf a 2 = if 0 < 1 ∧ wPut = a then ((1 : Nat) : Int) else kf a 1 := rfl
 have k2 : kf a 3 = if 0 < 2 ∧ wDelete = a then ((2 : Nat) : Int) else kf a 2 := rfl
 have k3 : kf a 4 = if 0 < 3 ∧ wPurge = a then ((3 : Nat) : Int) else kf a 3 := rfl
 unfold tKind
 by_cases e3 : wPurge = a
 ·have c : 0 < 3 ∧ wPurge = a := ⟨by omega, e3⟩
  rw [k3, if_pos c, ← e3, if_neg h1, if_neg h2, if_pos rfl]
  rfl
 ·rw [k3, if_neg (fun h => e3 h.2)]
  by_cases e2 : wDelete = a
  ·have c : 0 < 2 ∧ wDelete = a := ⟨by omega, e2⟩
   rw [k2, if_pos c, ← e2, if_neg h3, if_pos rfl]
   rfl
  ·rw [k2, if_neg (fun h => e2 h.2)]
   by_cases e1 : wPut = a
   ·have c : 0 < 1 ∧ wPut = a := ⟨by omega, e1⟩
    rw [k1, if_pos c, ← e1, if_pos rfl]
    rfl
   ·rw [k1, if_neg (fun h => e1 h.2), k0, if_neg (fun h => e1 h.symm), if_neg (fun h => e2 h.symm), if_neg (fun h => e3 h.symm)]
end Go.Proofs.YtdmnmfnmaccmoaaDoor
