/- Walks: slices.IndexFunc, ContainsFunc of entries; index.Free. -/
import Derived.Test.YthgdbblpbekieaaIx7
namespace Go.Proofs.Ythgdbblpbekieaa
open Go Go.RowKit

theorem getE_at {l : List Ent} {a : Nat} (ha : a < l.length) : l.getD a ⟨rZero, 0⟩ = l[a] := by
 rw [List.getD_eq_getElem?_getD, List.getElem?_eq_getElem ha]
 rfl
theorem idxE_hit {l : List Ent} {p : Ent → Bool} {a : Nat} (ha : a < l.length) (h : ∀ j, j < a → p (l.getD j ⟨rZero, 0⟩) = false) (h1 : p (l.getD a ⟨rZero, 0⟩) = true) : l.findIdx p = a := by
 rw [List.findIdx_eq ha]
 refine ⟨by rw [← getE_at ha]; exact h1, fun j hj => ?_⟩
 rw [← getE_at (by omega)]
 exact h j hj
theorem idxE_none {l : List Ent} {p : Ent → Bool} (h : ∀ j, j < l.length → p (l.getD j ⟨rZero, 0⟩) = false) : l.findIdx p = l.length := by
 rw [List.findIdx_eq_length]
 intro x hx
 obtain ⟨j, hj, rfl⟩ := List.getElem_of_mem hx
 rw [← getE_at hj]
 exact h j hj
/-- Where p holds first; -1. -/
def idxEnt (l : List Ent) (p : Ent → Bool) : Int := if l.findIdx p < l.length then ((l.findIdx p : Nat) : Int) else -1
/-- What a function value must do. -/
def AsksE (w : World) (g : Nat) (lb : Array Value) (l : List Ent) (p : Ent → Bool) : Prop :=
 ∀ (W : World) (r : Ent) (A : Option Addr) (n c : Nat), Ext w W → r ∈ l → By W W.heap.size A n c r.rcd.data →
  Calls Try.prog g (#[.agg #[.int .i64 r.rcd.kind, .int .i64 r.rcd.key, .int .i64 r.rcd.ver, .slice A n c, .int .i64 r.pair]] ++ lb) W fun e w' => e = .returned (.bool (p r)) ∧ Ext W w'

set_option maxRecDepth 100000 in
set_option maxHeartbeats 4000000 in
theorem entIndex_v {T : List TypeId} {base : Nat} {u : Value} {l : List Ent} {w : World} {g : Nat} {lb : Array Value} {p : Ent → Bool} (eg : ∀ args w, (callFunc g args).run Try.prog w = .ok (.enter g args) w)
  (h : Row eEnt T w base u l) (hp : AsksE w g lb l p) :
  Calls Try.prog 127 #[u, .func (.func g) #[] lb] w fun e w' => ∃ z, e = .returned (.int .i64 z) ∧ Hid (z = idxEnt l p) ∧ Ext w w' := by
 obtain ⟨A, m, c, rfl, hc, hcm, HM⟩ := h.form
 have HP := Lib.hid hp
 clear hp
 unfold maxLen at hcm
 go_enter Try.func127, Try.ntmps127
 go_wp2_with fail
 go_loopw [5, 8] (fun _ i wr => ∃ (a : Nat), a ≤ m ∧ i = .int .i64 a ∧ Hid (∀ j, j < a → p (l.getD j ⟨rZero, 0⟩) = false) ∧ Ext w wr) (fun _ i _ => m - (intOf i).toNat)
 case atStart => exact ⟨0, by omega, rfl, Lib.hid (fun j hj => by omega), Below.refl _ _⟩
 case round =>
  obtain ⟨a, ha, rfl, hF, hd⟩ := hrel
  by_cases hlt : a < m
  ·have e0 : (0 : Int) ≤ (a : Int) := by omega
   have e1 : (a : Int) < (m : Int) := by omega
   obtain ⟨b, o, u, rfl, hb, c0, c1, c2, c3, c4, hu⟩ := (h.ext hd).ent_at hlt
   have hal : a < l.length := HM.out ▸ hlt
   have hmem := ent_mem hal
   have hit := fun h1 => Lib.hid (idxE_hit hal hF.out h1)
   have miss : p (l.getD a ⟨rZero, 0⟩) = false → Hid (∀ j, j < a + 1 → p (l.getD j ⟨rZero, 0⟩) = false) := by
    intro h1 j hj
    by_cases hja : j < a
    ·exact hF.out j hja
    ·have : j = a := by omega
     rw [this]
     exact h1
   generalize l.getD a ⟨rZero, 0⟩ = r at c0 c1 c2 c4 hu hmem hit miss
   obtain ⟨A2, n2, c2', rfl, hy, _⟩ := hu.form
   have hit := Lib.hid hit
   have miss := Lib.hid miss
   have hmem := Lib.hid hmem
   have hal := Lib.hid hal
   go_wp2_with (fail)
   refine (HP.out wr r A2 n2 c2' hd hmem.out hy).mono ?_
   rintro e9 w9 ⟨rfl, he9⟩
   cases hq : p r with
   | true =>
    have hi := hit.out hq
    clear hit miss hmem hq
    go_wp2_with fail
    go_ret
    exact ⟨_, rfl, Lib.hid (by unfold idxEnt; rw [hi.out, if_pos hal.out]), ext_trans hd he9⟩
   | false =>
    have hm := miss.out hq
    clear hit miss hmem hq
    go_wp2_with fail
    refine ⟨⟨a + 1, by omega, rfl, hm, ext_trans hd he9⟩, ?_⟩
    simp only [intOf]
    omega
  ·have hno := Lib.hid (idxE_none (p := p) (l := l) (fun j hj => hF.out j (by have := HM.out; omega)))
   go_wp2_with fail
   go_ret
   exact ⟨_, rfl, Lib.hid (by unfold idxEnt; rw [hno.out, if_neg (by omega)]), hd⟩

theorem idxE_any (l : List Ent) (p : Ent → Bool) : decide ((0 : Int) ≤ idxEnt l p) = l.any p := by
 unfold idxEnt
 by_cases h : l.findIdx p < l.length
 ·rw [if_pos h]
  have h1 : l.any p = true := by
   rw [List.any_eq_true]
   exact List.findIdx_lt_length.1 h
  rw [h1]
  exact decide_eq_true (by omega)
 ·rw [if_neg h]
  have h1 : l.any p = false := by
   cases ha : l.any p with
   | false => rfl
   | true =>
    rw [List.any_eq_true] at ha
    exact absurd (List.findIdx_lt_length.2 ha) h
  rw [h1]
  rfl

set_option maxRecDepth 100000 in
set_option maxHeartbeats 4000000 in
theorem entHas_v {T : List TypeId} {base : Nat} {u : Value} {l : List Ent} {w : World} {g : Nat} {lb : Array Value} {p : Ent → Bool} (eg : ∀ args w, (callFunc g args).run Try.prog w = .ok (.enter g args) w)
  (h : Row eEnt T w base u l) (hp : AsksE w g lb l p) :
  Calls Try.prog 110 #[u, .func (.func g) #[] lb] w fun e w' => e = .returned (.bool (l.any p)) ∧ Ext w w' := by
 have HP := Lib.hid hp
 have hA := Lib.hid (idxE_any l p)
 clear hp
 go_enter Try.func110, Try.ntmps110
 go_wp2_with fail
 refine (entIndex_v eg h HP.out).mono ?_
 rintro e5 w5 ⟨z, rfl, hz, he5⟩
 go_wp2_with fail
 go_ret
 exact ⟨by rw [← hA.out, ← hz.out]; rfl, he5⟩


def atPair (p : Int) (e : Ent) : Bool := decide (e.pair = p)
set_option maxRecDepth 100000 in
set_option maxHeartbeats 4000000 in
theorem atPair_w {g : Nat} {p : Int} (x : Ent) (A : Option Addr) (n c : Nat) (W : World) (hg : g = 111 ∨ g = 113) {B : Nat} (b1 : Box W B 3 #[.int .i64 p]) :
  Calls Try.prog g #[.agg #[.int .i64 x.rcd.kind, .int .i64 x.rcd.key, .int .i64 x.rcd.ver, .slice A n c, .int .i64 x.pair], .pointer (some ⟨B, 0, none⟩)] W fun e w' => e = .returned (.bool (atPair p x)) ∧ Ext W w' := by
 have x0 := b1.c1
 have hlt := b1.lt
 have HA : Hid (atPair p x = (x.pair == p)) := by unfold Hid atPair; by_cases h : x.pair = p <;> simp [h]
 rw [HA.out]
 rcases hg with rfl | rfl
 ·go_enter Try.func111, Try.ntmps111
  go_wp2_with fail
  go_ret
  exact ⟨rfl, ext_alloc _ _⟩
 ·go_enter Try.func113, Try.ntmps113
  go_wp2_with fail
  go_ret
  exact ⟨rfl, ext_alloc _ _⟩
theorem atPair_asks {g : Nat} {p : Int} {w : World} {l : List Ent} (hg : g = 111 ∨ g = 113) {B : Nat} (b1 : Box w B 3 #[.int .i64 p]) : AsksE w g #[.pointer (some ⟨B, 0, none⟩)] l (atPair p) := by
 intro W r A n c hW _ _
 show Calls _ _ #[.agg #[.int .i64 r.rcd.kind, .int .i64 r.rcd.key, .int .i64 r.rcd.ver, .slice A n c, .int .i64 r.pair], .pointer (some ⟨B, 0, none⟩)] W _
 exact atPair_w r A n c W hg (b1.ext hW)
theorem free_none {l : List Ent} {n : Int} {a : Nat} (h : ∀ j : Nat, j < a → iUsed l j = true) (hn : n ≤ a) : iFree l n = -1 := by
 unfold iFree
 rcases iFreeFrom_spec l n.toNat 0 with ⟨h1, _⟩ | ⟨i, _, h2, _, h4, _⟩
 ·exact h1
 ·rw [h i (by omega)] at h4; cases h4
theorem free_some {l : List Ent} {n : Int} {a : Nat} (h : ∀ j : Nat, j < a → iUsed l j = true) (h1 : iUsed l a = false) (hn : (a : Int) < n) : iFree l n = a := by
 unfold iFree
 rcases iFreeFrom_spec l n.toNat 0 with ⟨_, h2⟩ | ⟨i, _, h2, h3, h4, h5⟩
 ·rw [h2 a (by omega) (by omega)] at h1; cases h1
 ·rw [h3]
  rcases Nat.lt_trichotomy i a with hlt | rfl | hlt
  ·rw [h i hlt] at h4; cases h4
  ·rfl
  ·rw [h5 a (by omega) hlt] at h1; cases h1
set_option maxRecDepth 100000 in
set_option maxHeartbeats 4000000 in
theorem ixFree_v {T : List TypeId} {base : Nat} {u : Value} {l : List Ent} {p : Int} {w : World} (h : Row eEnt T w base u l) (hp : p ≤ 100000) :
  Calls Try.prog 72 #[u, .int .i64 p] w fun e w' => e = .returned (.int .i64 (iFree l p)) ∧ Ext w w' := by
 obtain ⟨A, n, c, rfl, hc, hcm, HN⟩ := h.form
 have eg := enters_of Try.func111 (by kernel_rfl) rfl
 go_enter Try.func72, Try.ntmps72
 go_wp2_with fail
 go_loopw [7] (fun i wr => ∃ a : Nat, (a = 0 ∨ (a : Int) ≤ p) ∧ i = .int .i64 a ∧ Hid (∀ j : Nat, j < a → iUsed l j = true) ∧ Ext w wr) (fun i _ => p.toNat - (intOf i).toNat)
 case atStart => exact ⟨0, .inl rfl, rfl, fun j hj => (by omega), Below.refl _ _⟩
 case round =>
  obtain ⟨a, ha, rfl, HF, hx⟩ := hrel
  by_cases hlt : (a : Int) < p
  ·have hz := hx.size
   go_upto_region 4 with (fail)
   generalize hwn : World.alloc wr _ = w1
   have he : Ext wr w1 := by rw [← hwn]; exact ext_alloc _ _
   have b5 : Box w1 wr.heap.size 3 #[.int .i64 a] := by rw [← hwn]; exact Box.new _ _ _ (by simp)
   clear hwn
   have hx := ext_trans hx he
   clear he
   have hask := atPair_asks (l := l) (.inl rfl) b5
   go_wp2_with fail
   refine (entHas_v eg (h.ext hx) hask).mono ?_
   rintro e2 w2 ⟨rfl, he⟩
   have hx := ext_trans hx he
   have b5 := b5.ext he
   clear he
   clear hask
   have HU : Hid (iUsed l a = l.any (atPair a)) := rfl
   cases hq : l.any (atPair a) with
   | true =>
    go_wp2_with fail
    refine ⟨⟨a + 1, .inr (by omega), rfl, fun j hj => ?_, hx⟩, ?_⟩
    ·by_cases hja : j = a
     ·subst hja; rw [HU.out]; exact hq
     ·exact HF.out j (by omega)
    ·simp only [intOf]
     omega
   | false =>
    have HR := Lib.hid (free_some HF.out (HU.out.trans hq) hlt)
    have b5_0 := b5.c1
    have b5_z := b5.free
    have b5_l := b5.lt
    go_wp2_with fail
    go_ret
    exact ⟨by rw [HR.out]; rfl, hx⟩
  ·have HR := Lib.hid (free_none (l := l) (n := p) HF.out (by omega))
   have q : decide ((a : Int) < p) = false := by simpa using hlt
   go_wp2_with fail
   go_ret
   exact ⟨by rw [HR.out]; rfl, hx⟩
end Go.Proofs.Ythgdbblpbekieaa

