/- The statement MayWalk: the walk of the law. -/
import Derived.Test.YtmcgbdbhpnplmaaGreatAlive12
namespace Go.Proofs.YtmcgbdbhpnplmaaGreat
open Go Go.RowKit
set_option maxRecDepth 100000 in
set_option maxHeartbeats 4000000 in
theorem mayWalk_law (w : World) {v : Value} {l : List Stp} (hl : Row eStp [] w w.heap.size v l) :
  Calls Tryz.prog 12 #[v] w fun e w' => e = .returned (.bool true) ∧ Ext w w' := by
 obtain ⟨A, n, c, rfl, _, _, HN⟩ := hl.form
 have hx : Ext w w := Below.refl _ _
 go_enter Tryz.func12, Tryz.ntmps12
 go_wp2_with fail
 refine (alive12_w _).mono ?_
 rintro e0 w1 ⟨rfl, he⟩
 have hx := ext_trans hx he
 have hl := hl.ext he
 clear he
 by_cases hlen : 100 < n
 ·have q : decide ((100 : Int) < (n : Int)) = true := by simp; omega
  have q' : decide (100 < n) = true := by simp; omega
  clear hlen
  go_wp2_with fail
  go_ret
  exact ⟨rfl, hx⟩
 ·have q : decide ((100 : Int) < (n : Int)) = false := by simp; omega
  have q' : decide (100 < n) = false := by simp; omega
  have HK := Lib.hid (show yWalkTo sNew l ≤ n by rw [HN.out]; exact yWalkTo_le _ _)
  clear hlen HN
  go_wp2_with fail
  refine (mayWalk_v hl).mono ?_
  rintro e2 w2 ⟨rfl, he⟩
  have hx := ext_trans hx he
  clear he
  generalize yWalkTo sNew l = k at HK ⊢
  have q1 : decide ((0 : Int) ≤ (k : Int)) = true := by simp
  have q2 : decide ((k : Int) ≤ (n : Int)) = true := by have := HK.out; simp; omega
  have q3 : decide (k ≤ n) = true := by have := HK.out; simpa using this
  clear q q'
  go_wp2_with fail
  go_ret
  exact ⟨rfl, hx⟩
end Go.Proofs.YtmcgbdbhpnplmaaGreat
