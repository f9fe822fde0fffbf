/- The statement Names: the call hands back true, and turns nothing that was there: each constant has its value. No condition. -/
import Derived.Test.YtoknhgodeambiaaRows
import Derived.Test.YtoknhgodeambiaaProg
import Derived.WalkKit
import Derived.ProofKit
import Derived.OpenShut
import Derived.ChangeOld
import Derived.SizedLaws
import Derived.Deep.Cut
import Derived.Deep.CutRange
namespace Go.Proofs.Ytoknhgodeambiaa.names
open Go Go.RowKit Go.ChangeShapes Go.WideShapes Go.ChangeAt Go.Proofs.Ytoknhgodeambiaa

/-- Block g holds the cells cs, of type t, none frozen. -/
abbrev Blk (w : World) (g : Nat) (t : TypeId) (cs : Array Value) : Prop := w.heap[g]? = some (.cells cs t (0, 0))
theorem Blk.cell {w : World} {g : Nat} {t : TypeId} {cs : Array Value} (h : Blk w g t cs) (j : Nat) {v : Value} (hj : cs[j]? = some v) : w.cell? ⟨g, j, none⟩ = some v := by simp [World.cell?, h, hj]
theorem Blk.new (w : World) (cs : Array Value) (t : TypeId) : Blk (w.alloc (.cells cs t)) w.heap.size t cs := by
  show (w.heap.push _)[w.heap.size]? = _
  simp
def errs : Array Value := #[.int .i64 0, .int .i64 1, .int .i64 2, .int .i64 3, .int .i64 4, .int .i64 5, .int .i64 6, .int .i64 7, .int .i64 8, .int .i64 9, .int .i64 10, .int .i64 11]
def nums : List Int := [1, 2, 3, 16, 8, 255, 60000, 6, 12, 0, 1, 2, 3, 4, 5, 1, 2, 3, 1, 2, 3, 4, 5, 6, 100]
def vals : Array Value := #[.int .i64 1, .int .i64 2, .int .i64 3, .int .i64 16, .int .i64 8, .int .i64 255, .int .i64 60000, .int .i64 6, .int .i64 12, .int .i64 0, .int .i64 1, .int .i64 2, .int .i64 3, .int .i64 4, .int .i64 5, .int .i64 1, .int .i64 2, .int .i64 3, .int .i64 1, .int .i64 2, .int .i64 3, .int .i64 4, .int .i64 5, .int .i64 6, .int .i64 100]
theorem errs_at : ∀ j : Nat, j < 12 → errs[j]? = some (.int .i64 (j : Int)) := by
  intro j hj
  rcases (show j = 0 ∨ j = 1 ∨ j = 2 ∨ j = 3 ∨ j = 4 ∨ j = 5 ∨ j = 6 ∨ j = 7 ∨ j = 8 ∨ j = 9 ∨ j = 10 ∨ j = 11 by omega) with rfl | rfl | rfl | rfl | rfl | rfl | rfl | rfl | rfl | rfl | rfl | rfl <;> rfl
theorem vals_at (j : Nat) (hj : j < 25) : vals[j]? = some (.int .i64 (nums.getD j 0)) := by
  have e : vals = (nums.map (Value.int .i64)).toArray := rfl
  have hl : nums.length = 25 := rfl
  rw [e]
  simp only [List.getElem?_toArray, List.getElem?_map, List.getD_eq_getElem?_getD]
  rw [List.getElem?_eq_getElem (by omega)]
  rfl
theorem belowTrans {a b c : World} (h : Below a.heap.size a b) (k : Below b.heap.size b c) : Below a.heap.size a c := h.trans (k.mono h.size)

set_option maxRecDepth 100000 in
set_option maxHeartbeats 4000000 in
theorem names_law (w : World) : Calls Try.prog 3 #[] w fun e w' => e = .returned (.bool true) ∧ Below w.heap.size w w' := by
  go_enter Try.func3, Try.ntmps3
  go_upto_region 3 with (fail)
  generalize hwn : World.alloc w _ = w1
  have hx : Below w.heap.size w w1 := by rw [← hwn]; exact (Below.refl _ _).alloc (Nat.le_refl _) _
  have b1 : ∀ j : Nat, j < 12 → w1.cell? ⟨w.heap.size, j, none⟩ = some (.int .i64 (j : Int)) := fun j hj => by rw [← hwn]; exact (Blk.new w errs _).cell j (errs_at j hj)
  clear hwn
  go_loopw [10] (fun i wr => ∃ j : Nat, j ≤ 12 ∧ i = .int .i64 j ∧ wr = w1) (fun i _ => 12 - (intOf i).toNat)
  case atStart => exact ⟨0, by omega, rfl, rfl⟩
  case round =>
    obtain ⟨j, hj, rfl, rfl⟩ := hrel
    by_cases hlt : j < 12
    · have c := b1 j hlt
      have e0 : (0 : Int) ≤ (j : Int) := by omega
      have e1 : (j : Int) < 12 := by omega
      have q : ((j : Int) != (j : Int)) = false := by simp
      clear b1
      go_wp2_with fail
      refine ⟨⟨j + 1, by omega, by first | exact ⟨rfl, trivial⟩ | simp⟩, ?_⟩
      simp only [intOf]
      omega
    · obtain rfl : j = 12 := by omega
      clear b1
      go_upto_region 11 with (fail)
      generalize hwn : World.alloc (World.alloc wr _) _ = w2
      have hx : Below w.heap.size w w2 := by rw [← hwn]; exact (hx.alloc hx.size _).alloc (hx.alloc hx.size _).size _
      have b4 : ∀ j : Nat, j < 25 → w2.cell? ⟨wr.heap.size, j, none⟩ = some (.int .i64 (nums.getD j 0)) := fun j hj => by
        rw [← hwn]
        exact ((Below.refl (wr.heap.size + 1) (wr.alloc (.cells vals 3))).alloc (by simp) _).cell (p := ⟨wr.heap.size, j, none⟩) (Nat.lt_succ_self _) |>.trans ((Blk.new wr vals _).cell j (vals_at j hj))
      have b5 : ∀ j : Nat, j < 25 → w2.cell? ⟨wr.heap.size + 1, j, none⟩ = some (.int .i64 (nums.getD j 0)) := fun j hj => by
        rw [← hwn]
        have := (Blk.new (wr.alloc (.cells vals 3)) vals 3).cell j (vals_at j hj)
        rwa [World.size_alloc] at this
      clear hwn
      obtain ⟨g4, hg4⟩ : ∃ g, g = wr.heap.size := ⟨_, rfl⟩
      rw [← hg4] at b4 b5 ⊢
      clear hg4
      go_loopw [23] (fun i wr => ∃ j : Nat, j ≤ 25 ∧ i = .int .i64 j ∧ Below w2.heap.size w2 wr) (fun i _ => 25 - (intOf i).toNat)
      case atStart => exact ⟨0, by omega, rfl, Below.refl _ _⟩
      case round =>
        obtain ⟨j, hj, rfl, hd⟩ := hrel
        by_cases hlt : j < 25
        · have c4 := b4 j hlt
          have c5 := b5 j hlt
          have l4 : g4 < w2.heap.size := by
            rcases Nat.lt_or_ge g4 w2.heap.size with h | h
            · exact h
            · simp [World.cell?, Array.getElem?_eq_none h] at c4
          have l5 : g4 + 1 < w2.heap.size := by
            rcases Nat.lt_or_ge (g4 + 1) w2.heap.size with h | h
            · exact h
            · simp [World.cell?, Array.getElem?_eq_none h] at c5
          have c4 := (hd.cell (p := ⟨g4, j, none⟩) l4).trans c4
          have c5 := (hd.cell (p := ⟨g4 + 1, j, none⟩) l5).trans c5
          clear b4 b5 l4 l5
          have e0 : (0 : Int) ≤ (j : Int) := by omega
          have e1 : (j : Int) < 25 := by omega
          generalize nums.getD j 0 = x at c4 c5
          have q : (x != x) = false := by simp
          go_upto_region 13 with (fail)
          go_region
          go_wp2_with fail
          refine ⟨⟨j + 1, by omega, by simp, hd.drew⟩, ?_⟩
          simp only [intOf]
          omega
        · clear b4 b5
          obtain rfl : j = 25 := by omega
          go_wp2_with fail
          go_ret
          exact ⟨rfl, belowTrans hx hd⟩
theorem and_t {a b : Bool} (h : a = true) (k : b = true) : (a && b) = true := by rw [h, k]; rfl
theorem own : ownKnob Try.prog.godebug = none := by kernel_rfl
theorem laidOut : laidOutB Try.prog = true := by kernel_rfl

set_option maxRecDepth 100000 in
theorem lifted (os : Os) (started : os.Started) (H : Type) (enc : TypeId × Value → H) :
    ReturnsInHanded {} Try.checked os 3 .any (Rows.namesSpec.pre6 enc Try.prog Try.f3 Rows.namesRow.domain false) (Rows.namesSpec.post enc Try.prog Try.f3 false true false false) := by
  refine returnsInHanded_of_change_sized (C := Try.checked) own started (by kernel_rfl) Try.func3
    (ChangeSpec.witness6 (enc := enc) (C := Try.checked) false ⟨#[], #[], []⟩ 8 (by kernel_rfl) (by kernel_rfl) (by kernel_rfl) (by kernel_rfl)) ?_
  intro W base args ds gs before hval0 hW _ hsz0 _
  have hW' := hW
  obtain ⟨p, q, hA0, hV, rfl, hfz, hnd⟩ := hW
  have hA : DataW.TrodAll enc Try.prog W 0 (fun _ => true) true Try.f3.params.toList args.toList ds p := hA0
  rw [Try.params3] at hA
  obtain ⟨hargs, rfl, rfl⟩ := trodAll_nil hA
  obtain rfl : args = #[] := by cases args; simp_all
  obtain ⟨rfl, rfl⟩ := trodVars_none hV
  clear hA0 hval0
  refine (names_law W).mono fun e W' ⟨he, bel⟩ => ?_
  subst he
  exact ⟨_, rfl, _, _, _, [], _, [], hW', trodAll_mk1 (shut_bool Try.underlying4 _), trodAll_mk0, rfl, bel.frame _, fun h => by cases h⟩

set_option maxHeartbeats 20000000 in
theorem closed : joinedFacts Try.checked.prog 3 Try.f3 Rows.namesSpec Rows.namesRow = true := by
  unfold joinedFacts
  repeat' (with_reducible refine and_t ?_ ?_)
  all_goals (as_aux_lemma => kernel_rfl)

theorem over : Rows.namesRow.holds Try.pinned (OpenSpec.ofChange Rows.namesSpec) :=
  OpenClaim.holds_of_wide 3 Try.f3 rfl rfl rfl rfl rfl rfl rfl ⟨rfl, rfl, rfl, rfl, rfl⟩ rfl rfl rfl rfl rfl (by as_aux_lemma => kernel_rfl) Try.func3 closed
    (of_decide_eq_true (by as_aux_lemma => kernel_rfl)) (by unfold Func.isWrapper; first | (rw [if_pos (by decide +kernel)]; kernel_rfl) | (rw [if_neg (by decide +kernel)]; exact ⟨rfl, rfl⟩))
    (fun os started H enc _ => lifted os started H enc)

theorem proved : Rows.NamesSaid := over
#print axioms proved
end Go.Proofs.Ytoknhgodeambiaa.names
