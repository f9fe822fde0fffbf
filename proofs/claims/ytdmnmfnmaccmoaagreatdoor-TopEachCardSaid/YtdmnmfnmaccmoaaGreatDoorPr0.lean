/- Walks: the function literal of pair.Look; loads and results of arrays. -/
import Derived.Test.YtdmnmfnmaccmoaaGreatDoorG3
namespace Go.Proofs.YtdmnmfnmaccmoaaGreatDoor
open Go Go.RowKit
abbrev B8 (w : World) (g : Nat) (r s : Rec) (u u' : Value) : Prop := Box w g 142 #[.int .i64 r.kind, .int .i64 r.key, .int .i64 r.ver, u, .int .i64 s.kind, .int .i64 s.key, .int .i64 s.ver, u']
theorem results_cells {fn : Func} {p u : Tmp} {ty ty' : TypeId} (h : fn.results = #[.cell p ty, .cell u ty']) (tmps : Array Value) (P : Program) (w : World) :
  (results fn tmps).run P w = ((asAddr (tmps.getD p undef)).run P w).andThen fun a w₁ => ((loadVar ty a).run P w₁).andThen fun x w₂ => ((asAddr (tmps.getD u undef)).run P w₂).andThen fun b w₃ => ((loadVar ty' b).run P w₃).andThen fun y w₄ => .ok (.tuple #[x, y]) w₄ := by
 simp only [results, h]
 simp [Sem.run_bind, Result.andThen]
theorem results_tc {fn : Func} {p u : Tmp} {ty : TypeId} (h : fn.results = #[.tmp u, .cell p ty]) (tmps : Array Value) (P : Program) (w : World) :
  (results fn tmps).run P w = ((asAddr (tmps.getD p undef)).run P w).andThen fun a w₁ => ((loadVar ty a).run P w₁).andThen fun x w₂ => .ok (.tuple #[tmps.getD u undef, x]) w₂ := by
 simp only [results, h]
 simp [Sem.run_bind, Result.andThen]
theorem bne_one (k : Int) : (k != 1) = decide (k ≠ 1) := by by_cases h : k = 1 <;> simp [h]
set_option maxRecDepth 100000 in
set_option maxHeartbeats 4000000 in
theorem tells0 {w : World} {g f : Nat} {r s : Rec} {u u' : Value} {b0 b1 q : Bool} (hg : B8 w g r s u u') (hf : Box w f 143 #[.bool b0, .bool b1]) (hq : (b0 && decide (r.kind ≠ 1)) = q) :
  Calls Tryz.prog 81 #[.int .i64 0, .pointer (some ⟨f, 0, none⟩), .pointer (some ⟨g, 0, none⟩)] w fun e w' => e = .returned (.bool q) ∧ w = w' := by
 obtain ⟨a0, a1, a2, a3, a4, a5, a6, a7⟩ := hg.c8
 obtain ⟨d0, d1⟩ := hf.c2
 have Hq := Lib.hid hq
 clear hq
 cases b0 with
 | false =>
  go_enter Tryz.func81, Tryz.ntmps81
  go_wp2_with fail
  go_ret
  exact ⟨by rw [← Hq.out]; rfl, rfl⟩
 | true =>
  go_enter Tryz.func81, Tryz.ntmps81
  go_wp2_with fail
  go_ret
  exact ⟨by rw [← Hq.out, ← bne_one]; rfl, rfl⟩
set_option maxRecDepth 100000 in
set_option maxHeartbeats 4000000 in
theorem tells1 {w : World} {g f : Nat} {r s : Rec} {u u' : Value} {b0 b1 q : Bool} (hg : B8 w g r s u u') (hf : Box w f 143 #[.bool b0, .bool b1]) (hq : (b1 && decide (s.kind ≠ 1)) = q) :
  Calls Tryz.prog 81 #[.int .i64 1, .pointer (some ⟨f, 0, none⟩), .pointer (some ⟨g, 0, none⟩)] w fun e w' => e = .returned (.bool q) ∧ w = w' := by
 obtain ⟨a0, a1, a2, a3, a4, a5, a6, a7⟩ := hg.c8
 obtain ⟨d0, d1⟩ := hf.c2
 have Hq := Lib.hid hq
 clear hq
 cases b1 with
 | false =>
  go_enter Tryz.func81, Tryz.ntmps81
  go_wp2_with fail
  go_ret
  exact ⟨by rw [← Hq.out]; rfl, rfl⟩
 | true =>
  go_enter Tryz.func81, Tryz.ntmps81
  go_wp2_with fail
  go_ret
  exact ⟨by rw [← Hq.out, ← bne_one]; rfl, rfl⟩
end Go.Proofs.YtdmnmfnmaccmoaaGreatDoor
