/- Texts laid together: words, plain laws and walks of the program's functions (IxA). -/
import Derived.Test.YtdmnmfnmaccmoaaGreatDoorIx7
/- Walks: slices.IndexFunc, ContainsFunc of entries; index.Free. -/
namespace Go.Proofs.YtdmnmfnmaccmoaaGreatDoor
open Go Go.RowKit
theorem getE_at {l : List Ent} {a : Nat} (ha : a < l.length) : l.getD a ⟨rZero, 0⟩ = l[a] := by
 rw [List.getD_eq_getElem?_getD, List.getElem?_eq_getElem ha]
 rfl
theorem idxE_hit {l : List Ent} {p : Ent → Bool} {a : Nat} (ha : a < l.length) (h : ∀ j, j < a → p (l.getD j ⟨rZero, 0⟩) = false) (h1 : p (l.getD a ⟨rZero, 0⟩) = true) : l.findIdx p = a := by
 rw [List.findIdx_eq ha]
 refine ⟨by rw [← getE_at ha]; exact h1, fun j hj => ?_⟩
 rw [← getE_at (by omega)]
 exact h j hj
theorem idxE_none {l : List Ent} {p : Ent → Bool} (h : ∀ j, j < l.length → p (l.getD j ⟨rZero, 0⟩) = false) : l.findIdx p = l.length := by
 rw [List.findIdx_eq_length]
 intro x hx
 obtain ⟨j, hj, rfl⟩ := List.getElem_of_mem hx
 rw [← getE_at hj]
 exact h j hj
def idxEnt (l : List Ent) (p : Ent → Bool) : Int := if l.findIdx p < l.length then ((l.findIdx p : Nat) : Int) else -1
def AsksE (w : World) (g : Nat) (lb : Array Value) (l : List Ent) (p : Ent → Bool) : Prop :=
 ∀ (W : World) (r : Ent) (A : Option Addr) (n c : Nat), Ext w W → r ∈ l → By W W.heap.size A n c r.rcd.data →
  Calls Tryz.prog g (#[.agg #[.int .i64 r.rcd.kind, .int .i64 r.rcd.key, .int .i64 r.rcd.ver, .slice A n c, .int .i64 r.pair]] ++ lb) W fun e w' => e = .returned (.bool (p r)) ∧ Ext W w'
set_option maxRecDepth 100000 in
set_option maxHeartbeats 4000000 in
theorem entIndex_v {T : List TypeId} {base : Nat} {u : Value} {l : List Ent} {w : World} {g : Nat} {lb : Array Value} {p : Ent → Bool} (eg : ∀ args w, (callFunc g args).run Tryz.prog w = .ok (.enter g args) w)
  (h : Row eEnt T w base u l) (hp : AsksE w g lb l p) :
  Calls Tryz.prog 97 #[u, .func (.func g) #[] lb] w fun e w' => ∃ z, e = .returned (.int .i64 z) ∧ Hid (z = idxEnt l p) ∧ Ext w w' := by
 obtain ⟨A, m, c, rfl, hc, hcm, HM⟩ := h.form
 have HP := Lib.hid hp
 clear hp
 unfold maxLen at hcm
 go_enter Tryz.func97, Tryz.ntmps97
 go_wp2_with fail
 go_loopw [5, 8] (fun _ i wr => ∃ (a : Nat), a ≤ m ∧ i = .int .i64 a ∧ Hid (∀ j, j < a → p (l.getD j ⟨rZero, 0⟩) = false) ∧ Ext w wr) (fun _ i _ => m - (intOf i).toNat)
 case atStart => exact ⟨0, by omega, rfl, Lib.hid (fun j hj => by omega), Below.refl _ _⟩
 case round =>
  obtain ⟨a, ha, rfl, hF, hd⟩ := hrel
  by_cases hlt : a < m
  ·have e0 : (0 : Int) ≤ (a : Int) := by omega
   have e1 : (a : Int) < (m : Int) := by omega
   obtain ⟨b, o, u, rfl, hb, c0, c1, c2, c3, c4, hu⟩ := (h.ext hd).ent_at hlt
   have hal : a < l.length := HM.out ▸ hlt
   have hmem := ent_mem hal
   have hit := fun h1 => Lib.hid (idxE_hit hal hF.out h1)
   have miss : p (l.getD a ⟨rZero, 0⟩) = false → Hid (∀ j, j < a + 1 → p (l.getD j ⟨rZero, 0⟩) = false) := by
    intro h1 j hj
    by_cases hja : j < a
    ·exact hF.out j hja
    ·have : j = a := by omega
     rw [this]
     exact h1
   generalize l.getD a ⟨rZero, 0⟩ = r at c0 c1 c2 c4 hu hmem hit miss
   obtain ⟨A2, n2, c2', rfl, hy, _⟩ := hu.form
   have hit := Lib.hid hit
   have miss := Lib.hid miss
   have hmem := Lib.hid hmem
   have hal := Lib.hid hal
   go_wp2_with (fail)
   refine (HP.out wr r A2 n2 c2' hd hmem.out hy).mono ?_
   rintro e9 w9 ⟨rfl, he9⟩
   cases hq : p r with
   | true =>
    have hi := hit.out hq
    clear hit miss hmem hq
    go_wp2_with fail
    go_ret
    exact ⟨_, rfl, Lib.hid (by unfold idxEnt; rw [hi.out, if_pos hal.out]), ext_trans hd he9⟩
   | false =>
    have hm := miss.out hq
    clear hit miss hmem hq
    go_wp2_with fail
    refine ⟨⟨a + 1, by omega, rfl, hm, ext_trans hd he9⟩, ?_⟩
    simp only [intOf]
    omega
  ·have hno := Lib.hid (idxE_none (p := p) (l := l) (fun j hj => hF.out j (by have := HM.out; omega)))
   go_wp2_with fail
   go_ret
   exact ⟨_, rfl, Lib.hid (by unfold idxEnt; rw [hno.out, if_neg (by omega)]), hd⟩
theorem idxE_any (l : List Ent) (p : Ent → Bool) : decide ((0 : Int) ≤ idxEnt l p) = l.any p := by
 unfold idxEnt
 by_cases h : l.findIdx p < l.length
 ·rw [if_pos h]
  have h1 : l.any p = true := by
   rw [List.any_eq_true]
   exact List.findIdx_lt_length.1 h
  rw [h1]
  exact decide_eq_true (by omega)
 ·rw [if_neg h]
  have h1 : l.any p = false := by
   cases ha : l.any p with
   | false => rfl
   | true =>
    rw [List.any_eq_true] at ha
    exact absurd (List.findIdx_lt_length.2 ha) h
  rw [h1]
  rfl
set_option maxRecDepth 100000 in
set_option maxHeartbeats 4000000 in
theorem entHas_v {T : List TypeId} {base : Nat} {u : Value} {l : List Ent} {w : World} {g : Nat} {lb : Array Value} {p : Ent → Bool} (eg : ∀ args w, (callFunc g args).run Tryz.prog w = .ok (.enter g args) w)
  (h : Row eEnt T w base u l) (hp : AsksE w g lb l p) :
  Calls Tryz.prog 73 #[u, .func (.func g) #[] lb] w fun e w' => e = .returned (.bool (l.any p)) ∧ Ext w w' := by
 have HP := Lib.hid hp
 have hA := Lib.hid (idxE_any l p)
 clear hp
 go_enter Tryz.func73, Tryz.ntmps73
 go_wp2_with fail
 refine (entIndex_v eg h HP.out).mono ?_
 rintro e5 w5 ⟨z, rfl, hz, he5⟩
 go_wp2_with fail
 go_ret
 exact ⟨by rw [← hA.out, ← hz.out]; rfl, he5⟩
def atPair (p : Int) (e : Ent) : Bool := decide (e.pair = p)
set_option maxRecDepth 100000 in
set_option maxHeartbeats 4000000 in
theorem atPair_w {g : Nat} {p : Int} (x : Ent) (A : Option Addr) (n c : Nat) (W : World) (hg : g = 74 ∨ g = 72) {B : Nat} (b1 : Box W B 3 #[.int .i64 p]) :
  Calls Tryz.prog g #[.agg #[.int .i64 x.rcd.kind, .int .i64 x.rcd.key, .int .i64 x.rcd.ver, .slice A n c, .int .i64 x.pair], .pointer (some ⟨B, 0, none⟩)] W fun e w' => e = .returned (.bool (atPair p x)) ∧ Ext W w' := by
 have x0 := b1.c1
 have hlt := b1.lt
 have HA : Hid (atPair p x = (x.pair == p)) := by unfold Hid atPair; by_cases h : x.pair = p <;> simp [h]
 rw [HA.out]
 rcases hg with rfl | rfl
 ·go_enter Tryz.func74, Tryz.ntmps74
  go_wp2_with fail
  go_ret
  exact ⟨rfl, ext_alloc _ _⟩
 ·go_enter Tryz.func72, Tryz.ntmps72
  go_wp2_with fail
  go_ret
  exact ⟨rfl, ext_alloc _ _⟩
theorem atPair_asks {g : Nat} {p : Int} {w : World} {l : List Ent} (hg : g = 74 ∨ g = 72) {B : Nat} (b1 : Box w B 3 #[.int .i64 p]) : AsksE w g #[.pointer (some ⟨B, 0, none⟩)] l (atPair p) := by
 intro W r A n c hW _ _
 show Calls _ _ #[.agg #[.int .i64 r.rcd.kind, .int .i64 r.rcd.key, .int .i64 r.rcd.ver, .slice A n c, .int .i64 r.pair], .pointer (some ⟨B, 0, none⟩)] W _
 exact atPair_w r A n c W hg (b1.ext hW)
theorem free_none {l : List Ent} {n : Int} {a : Nat} (h : ∀ j : Nat, j < a → iUsed l j = true) (hn : n ≤ a) : iFree l n = -1 := by
 unfold iFree
 rcases iFreeFrom_spec l n.toNat 0 with ⟨h1, _⟩ | ⟨i, _, h2, _, h4, _⟩
 ·exact h1
 ·rw [h i (by omega)] at h4; cases h4
theorem free_some {l : List Ent} {n : Int} {a : Nat} (h : ∀ j : Nat, j < a → iUsed l j = true) (h1 : iUsed l a = false) (hn : (a : Int) < n) : iFree l n = a := by
 unfold iFree
 rcases iFreeFrom_spec l n.toNat 0 with ⟨_, h2⟩ | ⟨i, _, h2, h3, h4, h5⟩
 ·rw [h2 a (by omega) (by omega)] at h1; cases h1
 ·rw [h3]
  rcases Nat.lt_trichotomy i a with hlt | rfl | hlt
  ·rw [h i hlt] at h4; cases h4
  ·rfl
  ·rw [h5 a (by omega) hlt] at h1; cases h1
set_option maxRecDepth 100000 in
set_option maxHeartbeats 4000000 in
theorem ixFree_v {T : List TypeId} {base : Nat} {u : Value} {l : List Ent} {p : Int} {w : World} (h : Row eEnt T w base u l) (hp : p ≤ 100000) :
  Calls Tryz.prog 42 #[u, .int .i64 p] w fun e w' => e = .returned (.int .i64 (iFree l p)) ∧ Ext w w' := by
 obtain ⟨A, n, c, rfl, hc, hcm, HN⟩ := h.form
 have eg := enters_of Tryz.func74 (by kernel_rfl) rfl
 go_enter Tryz.func42, Tryz.ntmps42
 go_wp2_with fail
 go_loopw [7] (fun i wr => ∃ a : Nat, (a = 0 ∨ (a : Int) ≤ p) ∧ i = .int .i64 a ∧ Hid (∀ j : Nat, j < a → iUsed l j = true) ∧ Ext w wr) (fun i _ => p.toNat - (intOf i).toNat)
 case atStart => exact ⟨0, .inl rfl, rfl, fun j hj => (by omega), Below.refl _ _⟩
 case round =>
  obtain ⟨a, ha, rfl, HF, hx⟩ := hrel
  by_cases hlt : (a : Int) < p
  ·have hz := hx.size
   go_upto_region 4 with (fail)
   generalize hwn : World.alloc wr _ = w1
   have he : Ext wr w1 := by rw [← hwn]; exact ext_alloc _ _
   have b5 : Box w1 wr.heap.size 3 #[.int .i64 a] := by rw [← hwn]; exact Box.new _ _ _ (by simp)
   clear hwn
   have hx := ext_trans hx he
   clear he
   have hask := atPair_asks (l := l) (.inl rfl) b5
   go_wp2_with fail
   refine (entHas_v eg (h.ext hx) hask).mono ?_
   rintro e2 w2 ⟨rfl, he⟩
   have hx := ext_trans hx he
   have b5 := b5.ext he
   clear he
   clear hask
   have HU : Hid (iUsed l a = l.any (atPair a)) := rfl
   cases hq : l.any (atPair a) with
   | true =>
    go_wp2_with fail
    refine ⟨⟨a + 1, .inr (by omega), rfl, fun j hj => ?_, hx⟩, ?_⟩
    ·by_cases hja : j = a
     ·subst hja; rw [HU.out]; exact hq
     ·exact HF.out j (by omega)
    ·simp only [intOf]
     omega
   | false =>
    have HR := Lib.hid (free_some HF.out (HU.out.trans hq) hlt)
    have b5_0 := b5.c1
    have b5_z := b5.free
    have b5_l := b5.lt
    go_wp2_with fail
    go_ret
    exact ⟨by rw [HR.out]; rfl, hx⟩
  ·have HR := Lib.hid (free_none (l := l) (n := p) HF.out (by omega))
   have q : decide ((a : Int) < p) = false := by simpa using hlt
   go_wp2_with fail
   go_ret
   exact ⟨by rw [HR.out]; rfl, hx⟩
end Go.Proofs.YtdmnmfnmaccmoaaGreatDoor
/- Walks: slices.DeleteFunc of entries; index.Drop. -/
namespace Go.Proofs.YtdmnmfnmaccmoaaGreatDoor
open Go Go.RowKit
def CellsAt (w : World) (base : Nat) (cur : Array Value) (i : Nat) (e : Ent) : Prop :=
 ∃ u, cur[i * 5]? = some (.int .i64 e.rcd.kind) ∧ cur[i * 5 + 1]? = some (.int .i64 e.rcd.key) ∧ cur[i * 5 + 2]? = some (.int .i64 e.rcd.ver) ∧ cur[i * 5 + 3]? = some u ∧ cur[i * 5 + 4]? = some (.int .i64 e.pair) ∧ ByT w base u e.rcd.data
theorem OwnRow.open5 {w : World} {rb base n c : Nat} {A : Option Addr} {xs : List Ent} (h : OwnRow eEnt w rb base (.slice A n c) xs) (hn : 0 < n) :
  ∃ g cur, A = some ⟨g, 0, none⟩ ∧ rb ≤ g ∧ Box w g 78 cur ∧ cur.size = c * 5 ∧ n ≤ c ∧ c ≤ maxLen ∧ n = xs.length ∧ ∀ i, i < n → CellsAt w base cur i (xs.getD i ⟨rZero, 0⟩) := by
 obtain ⟨css, hc, hl, h⟩ := h
 rcases h with ⟨e1, e2⟩ | ⟨g, cap, cur, hv, hg, hh, hnc, hm, hs, ht⟩
 ·injection e1 with _ h2 _
  omega
 ·injection hv with h1 h2 h3
  subst h1 h2 h3
  refine ⟨g, cur, rfl, hg, hh, hs, hnc, hm, rfl, fun i hi => ?_⟩
  obtain ⟨u, hu, hb⟩ := hc.2 i hi
  have hget : ∀ j v, j < 5 → (css.getD i [])[j]? = some v → cur[i * 5 + j]? = some v := by
   intro j v hj hv
   have h1 := flat_at css hc.each i j (by have := hc.1; omega) hj
   rw [hv, ← ht] at h1
   have h2 : i * eEnt.size + j < xs.length * eEnt.size := by show i * 5 + j < xs.length * 5; omega
   rw [List.getElem?_take, if_pos h2] at h1
   exact (by simpa using h1 : cur[i * eEnt.size + j]? = some v)
  refine ⟨u, hget 0 _ (by omega) (by rw [hu]; rfl), hget 1 _ (by omega) (by rw [hu]; rfl), hget 2 _ (by omega) (by rw [hu]; rfl), hget 3 _ (by omega) (by rw [hu]; rfl), hget 4 _ (by omega) (by rw [hu]; rfl), hb⟩
theorem OwnRow.shut5 {w : World} {rb base n c g : Nat} {cur : Array Value} {xs : List Ent} (hg : rb ≤ g) (hb : Box w g 78 cur) (hs : cur.size = c * 5) (hnc : n ≤ c) (hm : c ≤ maxLen) (hn : n = xs.length) (h : ∀ i, i < n → CellsAt w base cur i (xs.getD i ⟨rZero, 0⟩)) :
  OwnRow eEnt w rb base (.slice (some ⟨g, 0, none⟩) n c) xs := by
 have hget : ∀ j, j < n * 5 → cur[j]? = some (cur.getD j (.bool false)) := fun j hj => by
  rw [Array.getElem?_eq_getElem (by omega)]
  simp [Array.getD, show j < cur.size by omega]
 obtain ⟨css, hcss⟩ : ∃ css : List (List Value), css = (List.range n).map fun i => [cur.getD (i * 5) (.bool false), cur.getD (i * 5 + 1) (.bool false), cur.getD (i * 5 + 2) (.bool false), cur.getD (i * 5 + 3) (.bool false), cur.getD (i * 5 + 4) (.bool false)] := ⟨_, rfl⟩
 have hcl : css.length = n := by rw [hcss]; simp
 have hci : ∀ i, i < n → css.getD i [] = [cur.getD (i * 5) (.bool false), cur.getD (i * 5 + 1) (.bool false), cur.getD (i * 5 + 2) (.bool false), cur.getD (i * 5 + 3) (.bool false), cur.getD (i * 5 + 4) (.bool false)] := fun i hi => by
  rw [hcss, List.getD_eq_getElem?_getD, List.getElem?_map, List.getElem?_range hi]
  rfl
 have each : ∀ cs ∈ css, cs.length = 5 := fun cs hcs => by
  rw [hcss] at hcs
  obtain ⟨i, _, rfl⟩ := List.mem_map.1 hcs
  rfl
 have hgd : ∀ j v, cur[j]? = some v → cur.getD j (.bool false) = v := fun j v h => by
  have hj := (Array.getElem?_eq_some_iff.1 h).1
  rw [Array.getElem?_eq_getElem hj] at h
  injection h with h
  simp [Array.getD, hj, h]
 have hfl : css.flatten.length = n * 5 := by rw [flat_len css each, hcl]
 refine ⟨css, ⟨by rw [hcl, hn], fun i hi => ?_⟩, by rw [hfl, hn]; rfl, .inr ⟨g, c, cur, by rw [hn], hg, hb, by omega, hm, hs, ?_⟩⟩
 ·obtain ⟨u, c0, c1, c2, c3, c4, hu⟩ := h i (by omega)
  refine ⟨u, ?_, hu⟩
  rw [hci i (by omega), hgd _ _ c0, hgd _ _ c1, hgd _ _ c2, hgd _ _ c3, hgd _ _ c4]
  rfl
 ·show cur.toList.take (xs.length * 5) = css.flatten
  rw [← hn]
  apply List.ext_getElem?
  intro j
  by_cases hj : j < n * 5
  ·obtain ⟨i, r, hr, rfl⟩ : ∃ i r, r < 5 ∧ j = i * 5 + r := ⟨j / 5, j % 5, Nat.mod_lt _ (by omega), by omega⟩
   have hd : i < n := by omega
   rw [List.getElem?_take, if_pos hj, Array.getElem?_toList, hget _ hj, flat_at css each _ _ (by omega) hr, hci _ hd]
   rcases (show r = 0 ∨ r = 1 ∨ r = 2 ∨ r = 3 ∨ r = 4 by omega) with rfl | rfl | rfl | rfl | rfl <;> rfl
  ·rw [List.getElem?_eq_none (by rw [List.length_take]; omega), List.getElem?_eq_none (by omega)]
theorem CellsAt.kept {w w' : World} {base : Nat} {cur : Array Value} {i : Nat} {e : Ent} (h : CellsAt w base cur i e) (k : Kept [] base w w') : CellsAt w' base cur i e := by
 obtain ⟨u, c0, c1, c2, c3, c4, hu⟩ := h
 exact ⟨u, c0, c1, c2, c3, c4, hu.kept k⟩
def put5 (cur : Array Value) (i : Nat) (a b c d e : Value) : Array Value := ((((cur.setIfInBounds (i * 5) a).setIfInBounds (i * 5 + 1) b).setIfInBounds (i * 5 + 2) c).setIfInBounds (i * 5 + 3) d).setIfInBounds (i * 5 + 4) e
theorem put5_size (cur : Array Value) (i : Nat) (a b c d e : Value) : (put5 cur i a b c d e).size = cur.size := by simp [put5]
theorem CellsAt.put_same {w : World} {base : Nat} {cur : Array Value} {i : Nat} {x : Ent} {u : Value} (hu : ByT w base u x.rcd.data) (hi : i * 5 + 5 ≤ cur.size) : CellsAt w base (put5 cur i (.int .i64 x.rcd.kind) (.int .i64 x.rcd.key) (.int .i64 x.rcd.ver) u (.int .i64 x.pair)) i x := by
 refine ⟨u, ?_, ?_, ?_, ?_, ?_, hu⟩ <;> simp [put5, Array.getElem?_setIfInBounds] <;> omega
theorem CellsAt.put_other {w : World} {base : Nat} {cur : Array Value} {i j : Nat} {x : Ent} {a b c d e : Value} (h : CellsAt w base cur j x) (hij : i ≠ j) : CellsAt w base (put5 cur i a b c d e) j x := by
 obtain ⟨u, c0, c1, c2, c3, c4, hu⟩ := h
 have hne : ∀ p q, p < 5 → q < 5 → i * 5 + p ≠ j * 5 + q := fun p q hp hq => by omega
 refine ⟨u, ?_, ?_, ?_, ?_, ?_, hu⟩ <;> unfold put5
 ·rw [Array.getElem?_setIfInBounds_ne (by omega), Array.getElem?_setIfInBounds_ne (by omega), Array.getElem?_setIfInBounds_ne (by omega), Array.getElem?_setIfInBounds_ne (by omega), Array.getElem?_setIfInBounds_ne (by omega)]; exact c0
 ·rw [Array.getElem?_setIfInBounds_ne (by omega), Array.getElem?_setIfInBounds_ne (by omega), Array.getElem?_setIfInBounds_ne (by omega), Array.getElem?_setIfInBounds_ne (by omega), Array.getElem?_setIfInBounds_ne (by omega)]; exact c1
 ·rw [Array.getElem?_setIfInBounds_ne (by omega), Array.getElem?_setIfInBounds_ne (by omega), Array.getElem?_setIfInBounds_ne (by omega), Array.getElem?_setIfInBounds_ne (by omega), Array.getElem?_setIfInBounds_ne (by omega)]; exact c2
 ·rw [Array.getElem?_setIfInBounds_ne (by omega), Array.getElem?_setIfInBounds_ne (by omega), Array.getElem?_setIfInBounds_ne (by omega), Array.getElem?_setIfInBounds_ne (by omega), Array.getElem?_setIfInBounds_ne (by omega)]; exact c3
 ·rw [Array.getElem?_setIfInBounds_ne (by omega), Array.getElem?_setIfInBounds_ne (by omega), Array.getElem?_setIfInBounds_ne (by omega), Array.getElem?_setIfInBounds_ne (by omega), Array.getElem?_setIfInBounds_ne (by omega)]; exact c4
theorem putAt_cells {w : World} {base o : Nat} {cur : Array Value} {vs : List Value} {j : Nat} {x : Ent} (h : CellsAt w base cur j x) (hj : j * 5 + 5 ≤ o) (hs : o + vs.length ≤ cur.size) : CellsAt w base (putAt cur o vs) j x := by
 obtain ⟨u, c0, c1, c2, c3, c4, hu⟩ := h
 refine ⟨u, ?_, ?_, ?_, ?_, ?_, hu⟩
 ·rw [putAt_get _ _ _ _ hs, if_neg (by omega)]; exact c0
 ·rw [putAt_get _ _ _ _ hs, if_neg (by omega)]; exact c1
 ·rw [putAt_get _ _ _ _ hs, if_neg (by omega)]; exact c2
 ·rw [putAt_get _ _ _ _ hs, if_neg (by omega)]; exact c3
 ·rw [putAt_get _ _ _ _ hs, if_neg (by omega)]; exact c4
def zEnt (n : Nat) : List Value := (Builtin.zeroCells (Value.agg #[.int .i64 0, .int .i64 0, .int .i64 0, .slice none 0 0, .int .i64 0]).cells n).toList
theorem zEnt_len (n : Nat) : (zEnt n).length = n * 5 := by
 unfold zEnt Builtin.zeroCells
 simp [Value.cells]
theorem zEnt_one (n : Nat) : ∀ v ∈ zEnt n, v.oneCell' = true := by
 intro v hv
 unfold zEnt Builtin.zeroCells at hv
 simp only [Array.toList_map, List.mem_map] at hv
 obtain ⟨i, _, rfl⟩ := hv
 have hlt : i % 5 < 5 := Nat.mod_lt _ (by omega)
 have h5 : i % 5 = 0 ∨ i % 5 = 1 ∨ i % 5 = 2 ∨ i % 5 = 3 ∨ i % 5 = 4 := by omega
 simp only [Value.cells, List.size_toArray, List.length_cons, List.length_nil, Nat.reduceAdd]
 rcases h5 with h | h | h | h | h <;> rw [h] <;> rfl
theorem run_clear_ent (w : World) (ty : TypeId) (b o n c : Nat) (hn : 0 < n) (hc : ∀ j, j < n * 5 → (w.cell? ⟨b, o + j, none⟩).isSome = true) (hf : ∀ j, j < n * 5 → w.frozen? ⟨b, o + j, none⟩ = false) :
  (Builtin.clear_ #[28] ty #[.slice (some ⟨b, o, none⟩) n c]).run Tryz.prog w = .ok (.tuple #[]) (w.setCells b o (zEnt n)) := by
 have hv : ∀ w, (zeroValue 78).run Tryz.prog w = .ok (.agg #[.int .i64 0, .int .i64 0, .int .i64 0, .slice none 0 0, .int .i64 0]) w := fun w => by kernel_rfl
 have hst := run_storeCells_cells (P := Tryz.prog) b o (zEnt n) 0 w (by simpa [zEnt_len] using hc) (by simpa [zEnt_len] using hf) (zEnt_one n)
 simp only [Nat.add_zero] at hst
 obtain ⟨m, rfl⟩ : ∃ m, n = m + 1 := ⟨n - 1, by omega⟩
 unfold zEnt at hst ⊢
 simp [Builtin.clear_, run_underlying Tryz.underlying28, hv, hst]
end Go.Proofs.YtdmnmfnmaccmoaaGreatDoor
/- Walks: slices.DeleteFunc of entries; index.Drop. -/
namespace Go.Proofs.YtdmnmfnmaccmoaaGreatDoor
open Go Go.RowKit
theorem kept_cells5 {g base : Nat} {w0 : World} (hb : base ≤ g) (vs : List Value) : ∀ (o : Nat) {w : World}, Kd w g 78 → Kept [] base w0 w → Kept [] base w0 (w.setCells g o vs) := by
 induction vs with
 | nil => intro o w _ h; exact h
 | cons v vs ih =>
  intro o w hk h
  exact ih (o + 1) (by (repeat (with_reducible (first | assumption | apply Kd.set | apply Kd.alloc | apply Kd.drew)))) (h.setK hk (by decide) hb o v)
theorem take_hit {l : List Ent} {p : Ent → Bool} {j : Nat} (hj : j < l.length) (h : p (l.getD j ⟨rZero, 0⟩) = true) : (l.take (j + 1)).filter (fun e => !p e) = (l.take j).filter fun e => !p e := by
 rw [← Cs_getD hj, List.filter_append]
 simp only [List.filter_cons, List.filter_nil, h, Bool.not_true, Bool.false_eq_true, if_false, List.append_nil]
theorem take_miss {l : List Ent} {p : Ent → Bool} {j : Nat} (hj : j < l.length) (h : p (l.getD j ⟨rZero, 0⟩) = false) : (l.take (j + 1)).filter (fun e => !p e) = (l.take j).filter (fun e => !p e) ++ [l.getD j ⟨rZero, 0⟩] := by
 rw [← Cs_getD hj, List.filter_append]
 simp only [List.filter_cons, List.filter_nil, h, Bool.not_false, if_true]
theorem drop_next {l m : List Ent} {j : Nat} (h : m.drop j = l.drop j) : m.drop (j + 1) = l.drop (j + 1) := by
 have := congrArg (List.drop 1) h
 simpa [List.drop_drop] using this
theorem drop_getD {l m : List Ent} {j : Nat} (h : m.drop j = l.drop j) : m.getD j ⟨rZero, 0⟩ = l.getD j ⟨rZero, 0⟩ := by
 have := congrArg (fun x => x[0]?) h
 simp only [List.getElem?_drop, Nat.add_zero] at this
 rw [List.getD_eq_getElem?_getD, List.getD_eq_getElem?_getD, this]
theorem set_take {m : List Ent} {i : Nat} {x : Ent} (hi : i < m.length) : (m.set i x).take (i + 1) = m.take i ++ [x] := by
 rw [List.take_set, List.take_succ_eq_append_getElem hi, List.set_append_right _ _ (by rw [List.length_take]; omega), List.length_take, show i - min i m.length = 0 by omega]
 rfl
theorem set_drop {m : List Ent} {i j : Nat} {x : Ent} (hij : i < j) : (m.set i x).drop j = m.drop j := by
 rw [List.drop_set, if_pos hij]
theorem getD_set_ent {m : List Ent} {i k : Nat} {x : Ent} (hi : i < m.length) : (m.set i x).getD k ⟨rZero, 0⟩ = if i = k then x else m.getD k ⟨rZero, 0⟩ := by
 rw [List.getD_eq_getElem?_getD, List.getElem?_set]
 by_cases h : i = k
 ·subst h; simp [hi]
 ·rw [if_neg h, if_neg h, List.getD_eq_getElem?_getD]
set_option maxRecDepth 100000 in
set_option maxHeartbeats 4000000 in
theorem entDelete_v {w : World} {rb base n c : Nat} {A : Option Addr} {l : List Ent} {g' : Nat} {lb : Array Value} {p : Ent → Bool} (eg : ∀ args w, (callFunc g' args).run Tryz.prog w = .ok (.enter g' args) w)
  (h : OwnRow eEnt w rb base (.slice A n c) l) (hb : base ≤ rb) (hrb : rb ≤ w.heap.size)
  (hp : ∀ (W : World) (x : Ent) (A : Option Addr) (n c : Nat), Below rb w W → Calls Tryz.prog g' (#[.agg #[.int .i64 x.rcd.kind, .int .i64 x.rcd.key, .int .i64 x.rcd.ver, .slice A n c, .int .i64 x.pair]] ++ lb) W fun e w' => e = .returned (.bool (p x)) ∧ Ext W w') :
  Calls Tryz.prog 71 #[.slice A n c, .func (.func g') #[] lb] w fun e w' => ∃ v, e = .returned v ∧ OwnRow eEnt w' rb base v (l.filter fun e => !p e) ∧ Below rb w w' := by
 have HP := Lib.hid hp
 have hask : AsksE w g' lb l p := fun W r A n c hW _ _ => hp W r A n c (hW.mono hrb)
 have HA := Lib.hid hask
 clear hp hask
 go_enter Tryz.func71, Tryz.ntmps71
 go_wp2_with fail
 refine (entIndex_v eg (h.row (T := [78]) (by decide) (Nat.le_refl _)) HA.out).mono ?_
 rintro e1 w1 ⟨z, rfl, hz, he⟩
 have h := h.ext he
 have hx := he.mono hrb
 have hz1 := he.size
 clear he HA
 by_cases hidx : l.findIdx p < l.length
 ·obtain ⟨i0, hi0⟩ : ∃ i0, l.findIdx p = i0 := ⟨_, rfl⟩
  have hzi : z = (i0 : Int) := by rw [hz.out]; unfold idxEnt; rw [if_pos hidx, hi0]
  subst hzi
  rw [hi0] at hidx
  have hnl : n = l.length := by
   obtain ⟨A', c', e⟩ := h.shape
   injection e
  obtain ⟨g, cur, rfl, hg, bg, hs, hnc, hcm, hnl2, hcells⟩ := h.open5 (by omega)
  clear hnl2
  have HN := Lib.hid hnl
  have p1 : p (l.getD i0 ⟨rZero, 0⟩) = true := by
   have hlt : l.findIdx p < l.length := by omega
   have := List.findIdx_getElem (w := hlt)
   rw [List.getD_eq_getElem?_getD, List.getElem?_eq_getElem (by omega)]
   simpa [hi0] using this
  have p0 : (l.take i0).filter (fun e => !p e) = l.take i0 := by
   rw [List.filter_eq_self]
   intro x hx
   obtain ⟨k, hk, rfl⟩ := List.getElem_of_mem hx
   rw [List.length_take] at hk
   have := List.not_of_lt_findIdx (p := p) (xs := l) (i := k) (by omega)
   simpa using this
  have HT0 := Lib.hid ((take_hit (p := p) hidx p1).trans p0)
  have q0 : ((i0 : Int) == -1) = false := by rw [beq_eq_false_iff_ne]; omega
  have hin : i0 < n := by omega
  unfold maxLen at hcm
  clear hi0 p0 p1 h hz hnl
  go_wp2_with fail
  clear q0
  go_loopw [5, 6] (fun vi vj wr => ∃ i j : Nat, i < j ∧ j ≤ n ∧ vi = .int .i64 i ∧ vj = .int .i64 j ∧ ∃ (cur : Array Value) (m : List Ent), Box wr g 78 cur ∧ cur.size = c * 5 ∧ Hid (∀ k, k < n → CellsAt wr base cur k (m.getD k ⟨rZero, 0⟩)) ∧ Hid (m.length = n) ∧ Hid (m.take i = (l.take j).filter fun e => !p e) ∧ Hid (m.drop j = l.drop j) ∧ Below rb w wr) (fun _ vj _ => n - (intOf vj).toNat)
  case atStart => exact ⟨i0, i0 + 1, by omega, by omega, rfl, by simp, cur, l, bg, hs, hcells, HN.out.symm, HT0.out.symm, rfl, hx⟩
  case round =>
   clear bg hs hcells hx
   obtain ⟨i, j, hij, hjn, rfl, rfl, cur, m, bg, hs, HC, HM, HT, HD, hx⟩ := hrel
   have hz := hx.size
   have lg := bg.lt
   have ci0 : (0 : Int) ≤ (i : Int) := by omega
   have ci1 : (i : Int) < (n : Int) := by omega
   by_cases hlt : j < n
   ·have e0 : (0 : Int) ≤ (j : Int) := by omega
    have e1 : (j : Int) < (n : Int) := by omega
    have hjl : j < l.length := by have := HN.out; omega
    have hmx := drop_getD HD.out
    obtain ⟨u, c0, c1, c2, c3, c4, hu⟩ := HC.out j hlt
    have STEPT := Lib.hid (fun h => take_hit (p := p) hjl h)
    have STEPF := Lib.hid (fun h => take_miss (p := p) hjl h)
    have HDN := Lib.hid (drop_next HD.out)
    rw [hmx] at c0 c1 c2 c4 hu
    generalize l.getD j ⟨rZero, 0⟩ = x at c0 c1 c2 c4 hu STEPT STEPF
    obtain ⟨A2, n2, c2', rfl, _, _⟩ := hu.form
    have d0 := bg.cell _ c0
    have d1 := bg.cell _ c1
    have d2 := bg.cell _ c2
    have d3 := bg.cell _ c3
    have d4 := bg.cell _ c4
    clear c0 c1 c2 c3 c4 hmx
    go_upto_region 8 with (fail)
    generalize hwn : World.alloc wr _ = w2
    have he : Ext wr w2 := by rw [← hwn]; exact ext_alloc _ _
    have b7 : Box w2 wr.heap.size 78 #[.int .i64 x.rcd.kind, .int .i64 x.rcd.key, .int .i64 x.rcd.ver, .slice A2 n2 c2', .int .i64 x.pair] := by rw [← hwn]; exact Box.new _ _ _ (by simp)
    clear hwn d0 d1 d2 d3 d4
    have hx := hx.trans (he.mono (by omega))
    have bg := bg.ext he
    have hu := hu.ext he
    have HC := Lib.hid (fun k hk => (HC.out k hk).kept (Kept.ext he) : ∀ k, k < n → CellsAt w2 base cur k (m.getD k ⟨rZero, 0⟩))
    clear he
    obtain ⟨b7_0, b7_1, b7_2, b7_3, b7_4⟩ := b7.c5
    have b7_z := b7.free
    have b7_l := b7.lt
    go_wp2_with fail
    refine (HP.out _ x A2 n2 c2' hx).mono ?_
    rintro e3 w3 ⟨rfl, he⟩
    have hx := hx.trans (he.mono (by have := b7.lt; omega))
    have bg := bg.ext he
    have hu := hu.ext he
    have b7 := b7.ext he
    have HC := Lib.hid (fun k hk => (HC.out k hk).kept (Kept.ext he) : ∀ k, k < n → CellsAt w3 base cur k (m.getD k ⟨rZero, 0⟩))
    try clear b7_0 b7_1 b7_2 b7_3 b7_4 b7_z b7_l
    clear he
    cases hq : p x with
    | true =>
     have hst := STEPT.out hq
     have HST := Lib.hid hst
     clear hst hq STEPT STEPF
     go_wp2_with fail
     refine ⟨⟨i, j + 1, by omega, by omega, rfl, rfl, cur, m, bg, hs, HC, HM, by rw [Hid, HST.out]; exact HT.out, HDN, hx⟩, ?_⟩
     simp only [intOf]
     omega
    | false =>
     have hst := STEPF.out hq
     have HST := Lib.hid hst
     clear hst hq STEPT STEPF
     obtain ⟨v, c0, c1, c2, c3, c4, _⟩ := HC.out i (by omega)
     have d0 := bg.cell _ c0
     have d1 := bg.cell _ c1
     have d2 := bg.cell _ c2
     have d3 := bg.cell _ c3
     have d4 := bg.cell _ c4
     have df := bg.free
     have dl := bg.lt
     have kg := bg.kd
     clear c0 c1 c2 c3 c4
     obtain ⟨b7_0, b7_1, b7_2, b7_3, b7_4⟩ := b7.c5
     have b7_z := b7.free
     have b7_l := b7.lt
     go_wp2_with fail
     have hK : Kept [] base w3 (((((w3.setCell ⟨g, i * 5, none⟩ (.int .i64 x.rcd.kind)).setCell ⟨g, i * 5 + 1, none⟩ (.int .i64 x.rcd.key)).setCell ⟨g, i * 5 + 2, none⟩ (.int .i64 x.rcd.ver)).setCell ⟨g, i * 5 + 3, none⟩ (.slice A2 n2 c2')).setCell ⟨g, i * 5 + 4, none⟩ (.int .i64 x.pair)) :=
      (((((Kept.refl _ _ _).setK kg (by decide) (by omega) _ _).setK (by (repeat (with_reducible (first | assumption | apply Kd.set | apply Kd.alloc | apply Kd.drew)))) (by decide) (by omega) _ _).setK (by (repeat (with_reducible (first | assumption | apply Kd.set | apply Kd.alloc | apply Kd.drew)))) (by decide) (by omega) _ _).setK (by (repeat (with_reducible (first | assumption | apply Kd.set | apply Kd.alloc | apply Kd.drew)))) (by decide) (by omega) _ _).setK (by (repeat (with_reducible (first | assumption | apply Kd.set | apply Kd.alloc | apply Kd.drew)))) (by decide) (by omega) _ _
     refine ⟨⟨i + 1, j + 1, by omega, by omega, rfl, rfl, put5 cur i (.int .i64 x.rcd.kind) (.int .i64 x.rcd.key) (.int .i64 x.rcd.ver) (.slice A2 n2 c2') (.int .i64 x.pair), m.set i x, ?_, by rw [put5_size]; exact hs, ?_, by rw [Hid, List.length_set]; exact HM.out, ?_, ?_, ?_⟩, ?_⟩
     ·exact ((((bg.set _ _).set _ _).set _ _).set _ _).set _ _
     ·intro k hk
      rw [getD_set_ent (by rw [HM.out]; omega)]
      by_cases hki : i = k
      ·rw [if_pos hki, ← hki]
       exact CellsAt.put_same (hu.kept hK) (by rw [hs]; omega)
      ·rw [if_neg hki]
       exact ((HC.out k hk).kept hK).put_other hki
     ·show _ = _
      rw [set_take (by rw [HM.out]; omega), HT.out, HST.out]
     ·show _ = _
      rw [set_drop (by omega)]
      exact HDN.out
     ·(repeat (with_reducible (first | assumption | exact Below.refl _ _ | refine Below.setCell ?_ (by simp <;> omega) _ | refine Below.alloc ?_ (by simp <;> omega) _ | refine Below.drew ?_ | refine below_drewN ?_ _)))
     ·simp only [intOf]
      omega
   ·obtain rfl : j = n := by omega
    have hfin : l.take j = l := List.take_of_length_le (by rw [HN.out]; exact Nat.le_refl _)
    have HT2 := HT.out
    rw [hfin] at HT2
    have HR := Lib.hid HT2
    have hcl : ∀ ty, (Builtin.clear_ #[28] ty #[.slice (some ⟨g, i * 5, none⟩) (j - i) (c - i)]).run Tryz.prog wr = .ok (.tuple #[]) (wr.setCells g (i * 5) (zEnt (j - i))) := fun ty =>
     run_clear_ent wr ty g (i * 5) (j - i) _ (by omega) (fun k hk => by
      have : i * 5 + k < cur.size := by rw [hs]; omega
      rw [bg.cell _ (Array.getElem?_eq_getElem this)]
      rfl) (fun k _ => bg.free _)
    have r2 : ¬ (c = i) := by omega
    have r3 : (j : Int) ≤ (c : Int) := by omega
    have r4 : (i : Int) ≤ (j : Int) := by omega
    have r5 : (i : Int) ≤ (c : Int) := by omega
    have r6 : i ≤ j := by omega
    have r7 : i ≤ c := by omega
    clear hfin HT2
    have hKc := kept_cells5 (Nat.le_trans hb hg) (zEnt (j - i)) (i * 5) bg.kd (Kept.refl [] base wr)
    have hbc := box_setCells (zEnt (j - i)) (i * 5) bg
    have hxc := below_cells (zEnt (j - i)) (i * 5) hg hx
    have HF := Lib.hid (OwnRow.shut5 (n := i) (c := c) (xs := m.take i) hg hbc (by rw [putAt_size]; exact hs) (by omega) (by unfold maxLen; exact hcm) (by rw [List.length_take, HM.out]; omega) (fun k hk => by
     have h1 := (HC.out k (by omega)).kept hKc
     have e1 : (m.take i).getD k ⟨rZero, 0⟩ = m.getD k ⟨rZero, 0⟩ := by
      rw [List.getD_eq_getElem?_getD, List.getElem?_take, if_pos hk, List.getD_eq_getElem?_getD]
     rw [e1]
     exact putAt_cells h1 (by omega) (by rw [zEnt_len, hs]; omega)))
    have HX := Lib.hid hxc
    clear hKc hbc hxc bg HC
    go_wp2_with fail
    go_ret
    exact ⟨_, rfl, by rw [← HR.out]; exact HF.out, HX.out⟩
 ·have hzi : z = -1 := by rw [hz.out]; unfold idxEnt; rw [if_neg hidx]
  subst hzi
  have hfe : l.filter (fun e => !p e) = l := by
   rw [List.filter_eq_self]
   intro x hx
   cases hpx : p x with
   | false => rfl
   | true => exact absurd (List.findIdx_lt_length.2 ⟨x, hx, hpx⟩) hidx
  have HFE := Lib.hid hfe
  clear hfe hz
  go_wp2_with fail
  go_ret
  exact ⟨_, rfl, by rw [HFE.out]; exact h, hx⟩
set_option maxRecDepth 100000 in
set_option maxHeartbeats 4000000 in
theorem ixDrop_v {T : List TypeId} {base : Nat} {u : Value} {l : List Ent} {p : Int} {w : World} (h : Row eEnt T w base u l) (hl : l.length ≤ 4096) (hs : ∀ e ∈ l, e.rcd.data.length ≤ 4096) :
  Calls Tryz.prog 41 #[u, .int .i64 p] w fun e w' => ∃ v', e = .returned v' ∧ OwnRow eEnt w' w.heap.size 0 v' (iDrop l p) ∧ Ext w w' := by
 obtain ⟨A, n, c, rfl, hc, hcm, HN⟩ := h.form
 have HS := Lib.hid hs
 have eg := enters_of Tryz.func72 (by kernel_rfl) rfl
 clear hs
 go_enter Tryz.func41, Tryz.ntmps41
 go_upto_region 1 with (fail)
 generalize hwn : World.alloc w _ = W
 have hx : Ext w W := by rw [← hwn]; exact ext_alloc _ _
 have b3 : Box W w.heap.size 3 #[.int .i64 p] := by rw [← hwn]; exact Box.new _ _ _ rfl
 clear hwn
 have lb := b3.lt
 go_wp2_with fail
 refine (ixOwn_v (h.ext hx) hl HS.out).mono ?_
 rintro e1 w1 ⟨v1, rfl, own, he⟩
 have hW := he.size
 have hx := ext_trans hx he
 have b3 := b3.ext he
 clear he
 obtain ⟨A1, n1, c1, rfl, _, _, _⟩ := own.form
 have hz := hx.size
 go_wp2_with fail
 refine (entDelete_v (p := atPair p) eg own (Nat.zero_le _) hW (fun V x A n c hV => ?_)).mono ?_
 ·show Calls _ _ #[.agg #[.int .i64 x.rcd.kind, .int .i64 x.rcd.key, .int .i64 x.rcd.ver, .slice A n c, .int .i64 x.pair], .pointer (some ⟨w.heap.size, 0, none⟩)] V _
  exact atPair_w x A n c V (.inr rfl) (b3.below hV lb)
 ·rintro e2 w2 ⟨v2, rfl, own2, hb2⟩
  go_wp2_with fail
  go_ret
  exact ⟨_, rfl, own2.more (rb' := w.heap.size) (by omega) (Nat.le_refl _), hx.trans (hb2.mono (by omega))⟩
end Go.Proofs.YtdmnmfnmaccmoaaGreatDoor
