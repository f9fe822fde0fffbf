/- One byte of a disk of the call's own stored anew. No walk here. -/
import Derived.Test.YtnganglmpcbcbaaKit4
namespace Go.Proofs.Ytnganglmpcbcbaa
open Go Go.RowKit

theorem ByT.other {w : World} {v : Value} {l : List UInt8} {b : Nat} {p : Addr} (h : ByT w 0 v l) (hp : p.block = b) (hne : v.ownBlock ≠ some b) (u : Value) : ByT (w.setCell p u) 0 v l := by
  obtain ⟨A, n, c, rfl, hs, hf⟩ := h
  have hne' : ∀ ad, A = some ad → ad.block ≠ b := by
    rintro ad rfl e
    exact hne (by simp [Value.ownBlock, e])
  have hbl : ∀ ad, A = some ad → (w.setCell p u).heap[ad.block]? = w.heap[ad.block]? := fun ad e => Below.heap_setCell _ _ _ _ (by rw [hp]; exact hne' ad e)
  refine ⟨A, n, c, rfl, ⟨hs.len, hs.cap, hs.max, fun hn => ?_⟩, fun hn ad e => ?_⟩
  · obtain ⟨ad, e, hb, hc⟩ := hs.at_ hn
    exact ⟨ad, e, by rw [size_set]; exact hb, fun i x hx => (World.cell?_of_block (w := w) (a := ad.add i) (by rw [block_of_add]; exact hbl ad e)).trans (hc i x hx)⟩
  · rcases hf hn ad e with h | ⟨cur, t, ht, h⟩
    · exact .inl h
    · exact .inr ⟨cur, t, ht, (hbl ad e).trans h⟩
theorem ByT.byte {w : World} {base n c k : Nat} {A : Option Addr} {l : List UInt8} (h : ByT w base (.slice A n c) l) (hb0 : base = 0) (hk : k < n) :
    ∃ b o, A = some ⟨b, o, none⟩ ∧ Kd w b 5 ∧ w.frozen? ⟨b, o + k, none⟩ = false ∧ w.cell? ⟨b, o + k, none⟩ = some (.int .u8 ((l.getD k 0).toNat : Int)) ∧ ∀ z : UInt8, ByT (w.setCell ⟨b, o + k, none⟩ (.int .u8 (z.toNat : Int))) 0 (.slice A n c) (l.set k z) := by
  subst hb0
  obtain ⟨A', n', c', e, hs, hf⟩ := h
  injection e with e1 e2 e3
  subst e1 e2 e3
  have hl : l.length = n := By.len hs
  obtain ⟨b, o, rfl, hb, hc⟩ := By.at_ hs hk
  have hkd : ∃ cur, w.heap[b]? = some (.cells cur 5 (0, 0)) := by
    rcases hf (by omega) _ rfl with h | ⟨cur, t, ht, h⟩
    · exact absurd h (Nat.not_lt_zero _)
    · simp only [List.mem_cons, List.not_mem_nil, or_false] at ht
      subst ht
      exact ⟨cur, h⟩
  obtain ⟨cur, hcur⟩ := hkd
  refine ⟨b, o, rfl, ⟨cur, hcur⟩, by simp [World.frozen?, hcur], hc k hk, fun z => ⟨_, _, _, rfl, ⟨by rw [u8s_length, List.length_set, hl, Nat.mul_one], hs.cap, hs.max, fun hn => ⟨_, rfl, by rw [size_set]; exact hb, fun i u hu => ?_⟩⟩, fun hn ad e => ?_⟩⟩
  · have hi : i < n := by
      rcases Nat.lt_or_ge i (u8s (l.set k z)).length with h | h
      · rw [u8s_length, List.length_set] at h; omega
      · rw [List.getElem?_eq_none h] at hu; cases hu
    have hci := hc i hi
    have e : (⟨b, o, none⟩ : Addr).add i = ⟨b, o + i, none⟩ := by
      unfold Addr.add
      split
      · rename_i h0; subst h0; rfl
      · rfl
    rw [e]
    have hcur' : (w.setCell ⟨b, o + k, none⟩ (.int .u8 (z.toNat : Int))).heap[b]? = some (.cells (cur.setIfInBounds (o + k) (.int .u8 (z.toNat : Int))) 5 (0, 0)) := by
      simp [World.setCell, Array.getElem?_modify, hcur]
    have hold : cur[o + i]? = some (.int .u8 ((l.getD i 0).toNat : Int)) := by simpa [World.cell?, hcur] using hci
    have hlt : o + i < cur.size := (Array.getElem?_eq_some_iff.1 hold).1
    rw [u8s_at, List.getElem?_set] at hu
    by_cases hik : k = i
    · subst hik
      rw [if_pos rfl, if_pos (by omega)] at hu
      simp only [Option.map_some, Option.some.injEq] at hu
      subst hu
      simp [World.cell?, hcur', hlt, u8v]
    · rw [if_neg hik, List.getElem?_eq_getElem (by omega)] at hu
      simp only [Option.map_some, Option.some.injEq] at hu
      subst hu
      have hold2 : cur[o + i]? = some (u8v l[i]) := by
        rw [hold, List.getD_eq_getElem?_getD, List.getElem?_eq_getElem (by omega)]
        rfl
      simp [World.cell?, hcur', hik, hold2]
  · injection e with e
    subst e
    exact .inr ⟨_, 5, by simp, (show (w.setCell _ _).heap[b]? = some (.cells (cur.setIfInBounds (o + k) (.int .u8 (z.toNat : Int))) 5 (0, 0)) by simp [World.setCell, Array.getElem?_modify, hcur])⟩
theorem own_kd {w : World} {rb e size n : Nat} {v : Value} {xs : List Value} (h : w.ownsRow rb e size v n xs) {g : Nat} {t : TypeId} (hk : Kd w g t) (ht : t ≠ e) (p : Addr) (hp : p.block = g) (u : Value) : (w.setCell p u).ownsRow rb e size v n xs := by
  refine ⟨h.1, ?_⟩
  rcases h.2 with hn | ⟨g', cap, cur, rfl, h1, hgg, rest⟩
  · exact .inl hn
  · refine .inr ⟨g', cap, cur, rfl, h1, (Below.heap_setCell w p u g' ?_).trans hgg, rest⟩
    rw [hp]
    rintro rfl
    obtain ⟨cs, hk⟩ := hk
    rw [hk] at hgg
    injection hgg with hgg
    injection hgg with _ hgg
    exact ht hgg
/-- One byte of one block. -/
theorem spoil_rows {w : World} {rb n c k i : Nat} {A : Option Addr} {lv : Value} {bs : List (List UInt8)} {ls : List (Int × List UInt8)}
    (hb : OwnRow eBlk w rb 0 (.slice A n c) bs) (hl : OwnRow eWr w rb 0 lv ls) {L : Nat} (ha : Apart L w (.agg #[.slice A n c, lv])) (hk : k < n) :
    ∃ g Au nu cu, A = some ⟨g, 0, none⟩ ∧ g < w.heap.size ∧ w.cell? ⟨g, k, none⟩ = some (.slice Au nu cu) ∧ Hid (nu = (bs.getD k []).length) ∧ nu ≤ cu ∧
      (i < nu → ∃ b o x, Au = some ⟨b, o, none⟩ ∧ L ≤ b ∧ b < w.heap.size ∧ Kd w b 5 ∧ w.frozen? ⟨b, o + i, none⟩ = false ∧ w.cell? ⟨b, o + i, none⟩ = some (.int .u8 x) ∧ Hid (x = (((bs.getD k []).getD i 0).toNat : Int)) ∧
        ∀ z : UInt8, OwnRow eBlk (w.setCell ⟨b, o + i, none⟩ (.int .u8 (z.toNat : Int))) rb 0 (.slice A n c) (bs.set k ((bs.getD k []).set i z)) ∧ OwnRow eWr (w.setCell ⟨b, o + i, none⟩ (.int .u8 (z.toNat : Int))) rb 0 lv ls) := by
  obtain ⟨css, hc, ho⟩ := hb
  obtain ⟨vs, rfl, hvl, hv⟩ := css_single _ _ _ hc
  rw [map_single_flat] at ho
  obtain ⟨css', hc', ho'⟩ := hl
  obtain ⟨us, rfl, hul, hu⟩ := css_pair _ _ _ hc'
  rw [lcells_flat] at ho'
  have hn : n = bs.length := by
    rcases ho.2 with ⟨h1, h2⟩ | ⟨g, cap, cur, h1, _⟩
    · injection h1 with _ h1 _; omega
    · injection h1
  subst hn
  obtain ⟨b', l', n', m', vs', us', ea, hr1, hr2, hI⟩ := ha
  simp only [Value.agg.injEq, Array.mk.injEq, List.cons.injEq, and_true] at ea
  obtain ⟨rfl, rfl⟩ := ea
  have en : n' = bs.length := by
    obtain ⟨_, _, e0, _⟩ := own_shape hr1
    injection e0 with _ e0 _
    exact e0.symm
  subst en
  have e1 := own_unique hr1 ho
  subst e1
  have em : m' = ls.length := by
    obtain ⟨_, _, e0, _⟩ := own_shape hr2
    obtain ⟨_, _, e1, _⟩ := own_shape ho'
    rw [e0] at e1
    injection e1
  subst em
  have e2 := lcells_inj (own_unique hr2 ho')
  subst e2
  obtain ⟨g, hA, _, hkg, _, hcell, _⟩ := own_setAt ho hk
  obtain ⟨Au, nu, cu, eu, hby, hlu⟩ := (hv k hk).form
  have hvk : vs'[k]? = some (.slice Au nu cu) := by
    rw [← eu, List.getD_eq_getElem?_getD, List.getElem?_eq_getElem (by omega)]
    rfl
  refine ⟨g, Au, nu, cu, hA, hkg.lt, hcell.trans hvk, hlu, Sl.cap hby, fun hi => ?_⟩
  have hvk2 := hv k hk
  rw [eu] at hvk2
  obtain ⟨b, o, rfl, hkd, hfz, hcl, hset⟩ := hvk2.byte rfl hi
  refine ⟨b, o, _, rfl, hI.low (i := k) (by rw [List.getElem?_append_left (by omega)]; exact hvk) rfl, hkd.lt, hkd, hfz, hcl, rfl, fun z => ⟨?_, ?_⟩⟩
  · refine ⟨vs'.map fun v => [v], ⟨by simp [hvl], fun j hj => ?_⟩, by rw [map_single_flat, List.length_set]; exact own_kd ho hkd (by decide) _ rfl _⟩
    rw [List.length_set] at hj
    rw [getD_map _ (.bool false) _ _ _ (by omega), getD_set]
    refine ⟨_, rfl, ?_⟩
    by_cases hjk : k = j
    · subst hjk
      rw [if_pos ⟨rfl, hk⟩, eu]
      exact hset z
    · rw [if_neg (fun h => hjk h.1)]
      refine (hv j hj).other rfl ?_ _
      have hvj : vs'[j]? = some (vs'.getD j (.bool false)) := by
        rw [List.getD_eq_getElem?_getD, List.getElem?_eq_getElem (by omega)]
        rfl
      exact hI.ne (l := vs' ++ us'.map Prod.snd) (i := k) (j := j) hjk (by rw [List.getElem?_append_left (by omega)]; exact hvk) (by rw [List.getElem?_append_left (by omega)]; exact hvj) rfl
  · refine ⟨us'.map fun p => [Value.int .i64 p.1, p.2], ⟨by simp [hul], fun j hj => ?_⟩, by rw [lcells_flat]; exact own_kd ho' hkd (by decide) _ rfl _⟩
    rw [getD_map _ (0, .bool false) _ _ _ (by omega)]
    refine ⟨_, ?_, (hu j hj).2.other rfl ?_ _⟩
    · rw [(hu j hj).1]; rfl
    · have huj : (us'.map Prod.snd)[j]? = some (us'.getD j (0, .bool false)).2 := by
        rw [List.getElem?_map, List.getD_eq_getElem?_getD, List.getElem?_eq_getElem (by omega)]
        rfl
      exact hI.ne (l := vs' ++ us'.map Prod.snd) (i := k) (j := vs'.length + j) (by omega) (by rw [List.getElem?_append_left (by omega)]; exact hvk) (by rw [List.getElem?_append_right (by omega), Nat.add_sub_cancel_left]; exact huj) rfl

end Go.Proofs.Ytnganglmpcbcbaa
