/- Walks of chapter 7: deeds that are the same; the closed fact. -/
import Derived.Test.YtdmnmfnmaccmoaaDoorTx8
namespace Go.Proofs.YtdmnmfnmaccmoaaDoor
open Go Go.RowKit
def dEq (d e : Ded) : Bool := d.kind == e.kind && (d.key == e.key && (d.n == e.n && d.data == e.data))
theorem dEq_iff (d e : Ded) : dEq d e = true ↔ d = e := by
 obtain ⟨a, b, c, l⟩ := d
 obtain ⟨a', b', c', l'⟩ := e
 simp [dEq]
set_option maxRecDepth 100000 in
set_option maxHeartbeats 2000000 in
theorem sameDeed_v {w : World} {base base' : Nat} {v v' : Value} {d x : Ded} (h : DedV w base v d) (h' : DedV w base' v' x) :
  Calls Tryd.prog 8 #[v, v'] w fun e w' => e = .returned (.bool (dEq d x)) ∧ Ext w w' := by
 obtain ⟨A, n, c, rfl, h1, _⟩ := h.at_
 obtain ⟨A', n', c', rfl, h2, _⟩ := h'.at_
 have H : ∀ k, dEq d x = k → Hid (dEq d x = k) := fun _ h => h
 by_cases k1 : d.kind = x.kind
 ·have q1 : (d.kind == x.kind) = true := by simpa using k1
  by_cases k2 : d.key = x.key
  ·have q2 : (d.key == x.key) = true := by simpa using k2
   by_cases k3 : d.n = x.n
   ·have q3 : (d.n == x.n) = true := by simpa using k3
    have HW := H _ (by unfold dEq; rw [q1, q2, q3])
    have c1 := fun (o1 o2 : Obj) => run_str (Sl.below h1 (((Below.refl _ _).alloc (Nat.le_refl _) o1).alloc (by simp) o2))
    have c2 := fun (o1 o2 : Obj) => run_str (Sl.below h2 (((Below.refl _ _).alloc (Nat.le_refl _) o1).alloc (by simp) o2))
    clear k1 k2 k3 H
    go_enter Tryd.func8, Tryd.ntmps8
    go_wp2
    go_ret
    exact ⟨by rw [HW.out]; rfl, (ext_alloc _ _).alloc (by simp) _⟩
   ·have q3 : (d.n == x.n) = false := by simpa using k3
    have HW := H false (by unfold dEq; rw [q3]; simp)
    clear k1 k2 k3 H
    go_enter Tryd.func8, Tryd.ntmps8
    go_wp2
    go_ret
    exact ⟨by rw [HW.out]; rfl, (ext_alloc _ _).alloc (by simp) _⟩
  ·have q2 : (d.key == x.key) = false := by simpa using k2
   have HW := H false (by unfold dEq; rw [q2]; simp)
   clear k1 k2 H
   go_enter Tryd.func8, Tryd.ntmps8
   go_wp2
   go_ret
   exact ⟨by rw [HW.out]; rfl, (ext_alloc _ _).alloc (by simp) _⟩
 ·have q1 : (d.kind == x.kind) = false := by simpa using k1
  have HW := H false (by unfold dEq; rw [q1]; simp)
  clear k1 H
  go_enter Tryd.func8, Tryd.ntmps8
  go_wp2
  go_ret
  exact ⟨by rw [HW.out]; rfl, (ext_alloc _ _).alloc (by simp) _⟩
def t7a : List UInt8 := [112, 117, 116, 32, 55, 32, 54, 49, 54, 50]
def t7b : List UInt8 := [112, 117, 114, 103, 101, 32, 55, 32, 51]
theorem dec_one {n : Nat} (h : n < 10) : Lib.itoa (n : Int) = [UInt8.ofNat (48 + n)] := by rw [itoa_nat, Lib.decDigits, dif_pos h]
theorem d7_ok : mWrong ⟨1, 7, 0, [97, 98]⟩ = 0 := by decide +kernel
theorem e7_ok : mWrong ⟨3, 7, 3, []⟩ = 0 := by decide +kernel
theorem p7_is : tPrint ⟨1, 7, 0, [97, 98]⟩ = t7a := by
 have e := dec_one (n := 7) (by decide)
 have e' : Lib.itoa 7 = [55] := e
 unfold tPrint
 simp only [e']
 decide +kernel
theorem r7_is : tPrint ⟨3, 7, 3, []⟩ = t7b := by
 have e : Lib.itoa 7 = [55] := dec_one (n := 7) (by decide)
 have e' : Lib.itoa 3 = [51] := dec_one (n := 3) (by decide)
 unfold tPrint
 simp only [e, e']
 decide +kernel
theorem t7a_is : tParse t7a = (⟨1, 7, 0, [97, 98]⟩, 0) := by rw [← p7_is]; exact parse_print d7_ok
theorem t7b_is : tParse t7b = (⟨3, 7, 3, []⟩, 0) := by rw [← r7_is]; exact parse_print e7_ok
theorem parse7a {w : World} (hV : VarT w) : Calls Tryd.prog 6 #[.string ⟨#[112, 117, 116, 32, 55, 32, 54, 49, 54, 50]⟩] w fun e w' => ∃ v, e = .returned (.tuple #[v, .int .i64 0]) ∧ DedV w' w'.heap.size v ⟨1, 7, 0, [97, 98]⟩ ∧ Ext w w' :=
 (parse_v t7a (by decide) hV).mono fun e w' ⟨v, q, he, hq, hd, hE⟩ => by
  rw [t7a_is] at hq hd
  have := hq.out
  subst this
  exact ⟨v, he, hd, hE⟩
theorem parse7b {w : World} (hV : VarT w) : Calls Tryd.prog 6 #[.string ⟨#[112, 117, 114, 103, 101, 32, 55, 32, 51]⟩] w fun e w' => ∃ v, e = .returned (.tuple #[v, .int .i64 0]) ∧ DedV w' w'.heap.size v ⟨3, 7, 3, []⟩ ∧ Ext w w' :=
 (parse_v t7b (by decide) hV).mono fun e w' ⟨v, q, he, hq, hd, hE⟩ => by
  rw [t7b_is] at hq hd
  have := hq.out
  subst this
  exact ⟨v, he, hd, hE⟩
set_option maxRecDepth 100000 in
set_option maxHeartbeats 4000000 in
theorem alive7_w {w : World} (hV : VarT w) : Calls Tryd.prog 12 #[] w fun e w' => e = .returned (.bool true) ∧ Ext w w' := by
 go_enter Tryd.func12, Tryd.ntmps12
 go_wp2_with (go_at_call 6; refine (parse7a hV).mono ?_; refine Lib.hid ?_)
 rintro e w1 ⟨v1, rfl, d1, hE⟩
 obtain ⟨A1, n1, c1, rfl, b1, t1⟩ := d1.at_
 go_upto_region 2 with (fail)
 generalize hwn : World.alloc w1 _ = w2
 have he : Ext w1 w2 := by rw [← hwn]; exact ext_alloc _ _
 have b2 : Box w2 w1.heap.size 24 #[.int .i64 1, .int .i64 7, .int .i64 0, .slice A1 n1 c1] := by rw [← hwn]; exact Box.new _ _ _ rfl
 clear hwn b1 t1
 have hE := ext_trans hE he
 have d1 := d1.ext he
 obtain ⟨g2, hg2⟩ : ∃ g, g = w1.heap.size := ⟨_, rfl⟩
 rw [← hg2] at b2 ⊢
 clear hg2 he
 go_wp2_with (go_at_call 6; refine (parse7b (hV.ext hE)).mono ?_; refine Lib.hid ?_)
 rintro e w3 ⟨v3, rfl, d3, he⟩
 have hE := ext_trans hE he
 have d1 := d1.ext he
 have b2 := b2.ext he
 obtain ⟨A3, n3, c3, rfl, _, _⟩ := d3.at_
 clear he
 go_upto_region 3 with (fail)
 generalize hwn : World.alloc w3 _ = w4
 have he : Ext w3 w4 := by rw [← hwn]; exact ext_alloc _ _
 have b4 : Box w4 w3.heap.size 24 #[.int .i64 3, .int .i64 7, .int .i64 3, .slice A3 n3 c3] := by rw [← hwn]; exact Box.new _ _ _ rfl
 clear hwn
 have hE := ext_trans hE he
 have d1 := (d1.ext he).all
 have b2 := b2.ext he
 have hV := hV.ext hE
 obtain ⟨g4, hg4⟩ : ∃ g, g = w3.heap.size := ⟨_, rfl⟩
 rw [← hg4] at b4 ⊢
 clear hg4 he d3
 obtain ⟨A, n, c, ev, hby, _⟩ := d1.at_
 injection ev with ev
 obtain ⟨rfl, rfl, rfl⟩ : A1 = A ∧ n1 = n ∧ c1 = c := by simpa using ev
 have hs := run_str hby
 have hl := listOf [97, 98]
 have hp := print_v d1 d7_ok hV
 rw [p7_is] at hp
 obtain ⟨pb, hpb⟩ : ∃ b : ByteArray, b = ⟨t7a.toArray⟩ := ⟨_, rfl⟩
 have hq : (pb.toList == [112, 117, 116, 32, 55, 32, 54, 49, 54, 50]) = true := by rw [hpb, listOf]; rfl
 rw [← hpb] at hp
 obtain ⟨ab, hab⟩ : ∃ b : ByteArray, b = ⟨[97, 98].toArray⟩ := ⟨_, rfl⟩
 have hq2 : (ab.toList == [97, 98]) = true := by rw [hab, listOf]; rfl
 rw [← hab] at hs
 clear hpb hab ev hl
 obtain ⟨x0, x1, x2, x3⟩ := b2.c4
 obtain ⟨y0, y1, y2, y3⟩ := b4.c4
 go_wp2_with (go_at_call 10; refine hp.mono ?_; rintro e w5 ⟨rfl, he⟩)
 go_ret
 exact ⟨rfl, ext_trans hE he⟩
end Go.Proofs.YtdmnmfnmaccmoaaDoor
