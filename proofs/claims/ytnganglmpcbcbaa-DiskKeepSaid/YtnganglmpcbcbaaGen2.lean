/- Disks as values: the two kinds of words for them bridged; the contracts of new disks and copies over values. -/
import Derived.Test.YtnganglmpcbcbaaGen
import Derived.Test.YtnganglmpcbcbaaDskOwn
import Derived.Test.YtnganglmpcbcbaaDsk3
import Derived.Test.YtnganglmpcbcbaaPl5
namespace Go.Proofs.Ytnganglmpcbcbaa
open Go Go.RowKit

theorem map_single_flat (vs : List Value) : (vs.map fun v => [v]).flatten = vs := by
  induction vs with
  | nil => rfl
  | cons v r ih => simp [ih]
theorem lcells_flat (vs : List (Int × Value)) : (vs.map fun p => [Value.int .i64 p.1, p.2]).flatten = lcells vs := by
  induction vs with
  | nil => rfl
  | cons v r ih => simp [lcells, ih]
theorem getD_map {α β : Type} (f : α → β) (d : α) (d' : β) (l : List α) (i : Nat) (h : i < l.length) : (l.map f).getD i d' = f (l.getD i d) := by
  simp [List.getD_eq_getElem?_getD, List.getElem?_map, List.getElem?_eq_getElem h]

section
variable {T : List TypeId} {w : World} {rb base B n c : Nat} {A : Option Addr} {v : Value}
theorem ByE.byT {l : List UInt8} (h : ByE w base v l) : ByT w base v l := by
  obtain ⟨A, n, c, rfl, hy, ha⟩ := h
  refine ⟨A, n, c, rfl, hy, fun _ ad e => ?_⟩
  rcases ha ad e with h | ⟨cur, h⟩
  · exact .inl h
  · exact .inr ⟨cur, 5, by simp, h⟩
theorem OwnBlks.ownRow {bs : List (List UInt8)} (h : OwnBlks w rb base v bs) : OwnRow eBlk w rb base v bs := by
  obtain ⟨vs, ho, hv⟩ := h
  have hl : vs.length = bs.length := by have := ho.1; omega
  refine ⟨vs.map fun v => [v], ⟨by simp [hl], fun i hi => ?_⟩, by rw [map_single_flat]; exact ho⟩
  rw [getD_map _ (.bool false) _ _ _ (by omega)]
  exact ⟨_, rfl, (hv i hi).byT⟩
theorem OwnLats.ownRow {ls : List (Int × List UInt8)} (h : OwnLats w rb base v ls) : OwnRow eWr w rb base v ls := by
  obtain ⟨vs, hl, ho, hv⟩ := h
  refine ⟨vs.map fun p => [Value.int .i64 p.1, p.2], ⟨by simp [hl], fun i hi => ?_⟩, by rw [lcells_flat]; exact ho⟩
  rw [getD_map _ (0, .bool false) _ _ _ (by omega)]
  refine ⟨_, ?_, (hv i hi).2.byT⟩
  rw [(hv i hi).1]
  rfl
theorem ByT.byV {l : List UInt8} (h : ByT w base v l) : ByV w w.heap.size v l := by
  obtain ⟨A, n, c, rfl, h, _⟩ := h
  exact ⟨A, n, c, rfl, h⟩
theorem ByV.byT {l : List UInt8} (h : ByV w B v l) (hB : B ≤ base) (hB' : B ≤ w.heap.size) : ByT w base v l := by
  obtain ⟨A, n, c, rfl, h⟩ := h
  exact ByT.of_by h hB hB'
theorem css_single (P : Value → List UInt8 → Prop) (css : List (List Value)) (bs : List (List UInt8)) (h : Cs eBlk P css bs) : ∃ vs : List Value, css = vs.map (fun v => [v]) ∧ vs.length = bs.length ∧ ∀ i, i < bs.length → P (vs.getD i (.bool false)) (bs.getD i []) := by
  have hh : ∀ cs ∈ css, ∃ v, cs = [v] := fun cs hcs => by
    obtain ⟨x, v, e, _⟩ := h.mem cs hcs
    exact ⟨v, e⟩
  have e : css = (css.map fun cs => cs.headD (.bool false)).map fun v => [v] := by
    rw [List.map_map]
    conv => lhs; rw [← List.map_id css]
    apply List.map_congr_left
    intro cs hcs
    obtain ⟨v, rfl⟩ := hh cs hcs
    rfl
  refine ⟨css.map fun cs => cs.headD (.bool false), e, by simp [h.1], fun i hi => ?_⟩
  obtain ⟨v, e1, h1⟩ := h.2 i hi
  rw [getD_map _ [] _ _ _ (by have := h.1; omega), e1]
  exact h1
theorem css_pair (P : Value → List UInt8 → Prop) (css : List (List Value)) (ls : List (Int × List UInt8)) (h : Cs eWr P css ls) :
    ∃ vs : List (Int × Value), css = vs.map (fun p => [Value.int .i64 p.1, p.2]) ∧ vs.length = ls.length ∧ ∀ i, i < ls.length → (vs.getD i (0, .bool false)).1 = (ls.getD i (0, [])).1 ∧ P (vs.getD i (0, .bool false)).2 (ls.getD i (0, [])).2 := by
  have hh : ∀ cs ∈ css, ∃ k v, cs = [Value.int .i64 k, v] := fun cs hcs => by
    obtain ⟨x, v, e, _⟩ := h.mem cs hcs
    exact ⟨_, v, e⟩
  let f : List Value → Int × Value := fun cs => match cs with
    | [.int .i64 k, v] => (k, v)
    | _ => (0, .bool false)
  have e : css = (css.map f).map fun p => [Value.int .i64 p.1, p.2] := by
    rw [List.map_map]
    conv => lhs; rw [← List.map_id css]
    apply List.map_congr_left
    intro cs hcs
    obtain ⟨k, v, rfl⟩ := hh cs hcs
    rfl
  refine ⟨css.map f, e, by simp [h.1], fun i hi => ?_⟩
  obtain ⟨v, e1, h1⟩ := h.2 i hi
  rw [getD_map f [] _ _ _ (by have := h.1; omega), e1]
  exact ⟨rfl, h1⟩
theorem Row.blks {bs : List (List UInt8)} (h : Row eBlk T w base (.slice A n c) bs) : Blks w w.heap.size A n c bs := by
  obtain ⟨A', c', css, e, hc, hs⟩ := h
  injection e with e1 e2 e3
  subst e1 e2 e3
  obtain ⟨vs, rfl, hl, hv⟩ := css_single _ _ _ hc
  rw [map_single_flat] at hs
  exact ⟨vs, hl, hs.1, fun i hi => (hv i hi).byV⟩
theorem Row.lats {ls : List (Int × List UInt8)} (h : Row eWr T w base (.slice A n c) ls) : Lats w w.heap.size A n c ls := by
  obtain ⟨A', c', css, e, hc, hs⟩ := h
  injection e with e1 e2 e3
  subst e1 e2 e3
  obtain ⟨vs, rfl, hl, hv⟩ := css_pair _ _ _ hc
  rw [lcells_flat] at hs
  exact ⟨vs, hl, hs.1, fun i hi => ⟨(hv i hi).1, (hv i hi).2.byV⟩⟩
theorem Blks.row {bs : List (List UInt8)} (h : Blks w B A n c bs) (hB : B ≤ base) (hB' : B ≤ w.heap.size) : Row eBlk T w base (.slice A n c) bs := by
  have hl := h.len
  subst hl
  obtain ⟨vs, hvl, hs, hv⟩ := h
  refine ⟨A, c, vs.map fun v => [v], rfl, ⟨by simp [hvl], fun i hi => ?_⟩, by rw [map_single_flat]; exact SlT.of_sl hs hB hB'⟩
  rw [getD_map _ (.bool false) _ _ _ (by omega)]
  exact ⟨_, rfl, (hv i hi).byT hB hB'⟩
theorem Lats.row {ls : List (Int × List UInt8)} (h : Lats w B A n c ls) (hB : B ≤ base) (hB' : B ≤ w.heap.size) : Row eWr T w base (.slice A n c) ls := by
  have hl := h.len
  subst hl
  obtain ⟨vs, hvl, hs, hv⟩ := h
  refine ⟨A, c, vs.map fun p => [Value.int .i64 p.1, p.2], rfl, ⟨by simp [hvl], fun i hi => ?_⟩, by rw [lcells_flat]; exact SlT.of_sl hs hB hB'⟩
  rw [getD_map _ (0, .bool false) _ _ _ (by omega)]
  refine ⟨_, ?_, (hv i hi).2.byT hB hB'⟩
  rw [(hv i hi).1]
  rfl
end

/-- The kinds of blocks that a disk lies in, beside bytes. -/
abbrev tD : List TypeId := [22, 60]
/-- A disk, as a value. -/
def DskV (T : List TypeId) (w : World) (base : Nat) (v : Value) (d : Dsk) : Prop := ∃ b l, v = .agg #[b, l] ∧ Row eBlk T w base b d.blocks ∧ Row eWr T w base l d.late
/-- A disk of the call's own. -/
def OwnD (w0 w : World) (v : Value) (d : Dsk) : Prop := ∃ b l, v = .agg #[b, l] ∧ OwnRow eBlk w w0.heap.size 0 b d.blocks ∧ OwnRow eWr w w0.heap.size 0 l d.late
section
variable {T T' : List TypeId} {w w' w0 : World} {base base' B : Nat} {v : Value} {d : Dsk}
theorem DskV.kept (h : DskV T w base v d) (k : Kept T base w w') : DskV T w' base v d := by
  obtain ⟨b, l, e, hb, hl⟩ := h
  exact ⟨b, l, e, hb.kept k, hl.kept k⟩
theorem DskV.ext (h : DskV T w base v d) (k : Ext w w') : DskV T w' base v d := h.kept (.ext k)
theorem DskV.sub (h : DskV T w base v d) (hT : T ⊆ T') (hb : base ≤ base') : DskV T' w base' v d := by
  obtain ⟨b, l, e, hb', hl⟩ := h
  exact ⟨b, l, e, hb'.sub hT hb, hl.sub hT hb⟩
theorem DskV.all (h : DskV T w base v d) : DskV T' w w.heap.size v d := by
  obtain ⟨b, l, e, hb, hl⟩ := h
  exact ⟨b, l, e, hb.all, hl.all⟩
theorem DskV.at_ (h : DskV T w base v d) : ∃ A c E e, v = .agg #[.slice A d.blocks.length c, .slice E d.late.length e] ∧ DskAt w w.heap.size A d.blocks.length c E d.late.length e d := by
  obtain ⟨b, l, rfl, hb, hl⟩ := h
  obtain ⟨A, c, rfl, _⟩ := hb.shape
  obtain ⟨E, e, rfl, _⟩ := hl.shape
  exact ⟨A, c, E, e, rfl, hb.blks, hl.lats⟩
theorem DskV.of_at {A E : Option Addr} {n c m e : Nat} (h : DskAt w B A n c E m e d) (hB : B ≤ base) (hB' : B ≤ w.heap.size) : DskV T w base (.agg #[.slice A n c, .slice E m e]) d :=
  ⟨_, _, rfl, h.blocks.row hB hB', h.late.row hB hB'⟩
theorem OwnDsk.ownD (h : OwnDsk w0 w v d) : OwnD w0 w v d := by
  obtain ⟨b, l, e, hb, hl⟩ := h
  exact ⟨b, l, e, hb.ownRow, hl.ownRow⟩
theorem OwnD.dskV (h : OwnD w0 w v d) (hT : tD ⊆ T) : DskV T w base v d := by
  obtain ⟨b, l, e, hb', hl⟩ := h
  exact ⟨b, l, e, hb'.row (List.mem_cons_of_mem _ (hT (by decide))) (Nat.zero_le _), hl.row (List.mem_cons_of_mem _ (hT (by decide))) (Nat.zero_le _)⟩
theorem OwnD.ext (h : OwnD w0 w v d) (k : Ext w w') : OwnD w0 w' v d := by
  obtain ⟨b, l, e, hb, hl⟩ := h
  exact ⟨b, l, e, hb.ext k, hl.ext k⟩
end

section
variable {T : List TypeId} {w : World} {base : Nat} {v v' : Value} {d d' : Dsk}
theorem dskOwn_v (h : DskV T w base v d) (hk : DskOk d) : Calls Try.prog 51 #[v] w fun e w' => ∃ v', e = .returned v' ∧ OwnD w w' v' d ∧ Ext w w' := by
  obtain ⟨A, c, E, e, rfl, h0⟩ := h.at_
  exact (dskOwn_w w h0 (Nat.le_refl _) hk).mono fun _ _ ⟨v, h1, h2, _, h3⟩ => ⟨v, h1, h2.ownD, h3⟩
theorem dskOwn_a (h : DskV T w base v d) (hk : DskOk d) : Calls Try.prog 51 #[v] w fun e w' => ∃ v', e = .returned v' ∧ OwnD w w' v' d ∧ Apart w.heap.size w' v' ∧ Ext w w' := by
  obtain ⟨A, c, E, e, rfl, h0⟩ := h.at_
  exact (dskOwn_w w h0 (Nat.le_refl _) hk).mono fun _ _ ⟨v, h1, h2, h4, h3⟩ => ⟨v, h1, h2.ownD, h4, h3⟩
theorem sameDisk_v (h : DskV T w base v d) {T' : List TypeId} {base' : Nat} (h' : DskV T' w base' v' d') : Calls Try.prog 45 #[v, v'] w fun e w' => e = .returned (.bool (dSame d d')) ∧ Ext w w' := by
  obtain ⟨A, c, E, e, rfl, h0⟩ := h.at_
  obtain ⟨A', c', E', e', rfl, h0'⟩ := h'.at_
  exact sameDisk_w w h0 h0' (Nat.le_refl _) (Nat.le_refl _)
theorem rightDisk_v (h : DskV T w base v d) : Calls Try.prog 48 #[v] w fun e w' => e = .returned (.bool (dRight d)) ∧ Ext w w' := by
  obtain ⟨A, c, E, e, rfl, h0⟩ := h.at_
  exact rightDisk_w w h0 (Nat.le_refl _)
theorem new_v (w : World) : Calls Try.prog 46 #[] w fun e w' => ∃ v, e = .returned v ∧ OwnD w w' v dFree ∧ Ext w w' :=
  (new_w w).mono fun _ _ ⟨v, h1, h2, h3⟩ => ⟨v, h1, h2.ownD, h3⟩
end

end Go.Proofs.Ytnganglmpcbcbaa
