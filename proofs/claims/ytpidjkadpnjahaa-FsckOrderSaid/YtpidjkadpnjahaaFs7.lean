/- Reports that are the same. -/
import Derived.Test.YtpidjkadpnjahaaFs6
import Derived.ChangeKeysEq
namespace Go.Proofs.Ytpidjkadpnjahaa
open Go Go.RowKit
theorem rep_part (l : List Int) (w : World) {i : Nat} (hi : i < 6) : (part 3 (repC l) (i * 1)).run Try.prog w = .ok (.int .i64 (rc l i)) w := by
 exact run_part_plain w (by kernel_rfl) (by rw [Nat.mul_one]; exact repC_at l hi)
theorem rep_items (l : List Int) (w : World) : ∀ is : List Nat, (∀ i ∈ is, i < 6) → (Op.eqItems 9998 3 1 (repC l) (repC l) is).run Try.prog w = .ok true w
 | [], _ => by simp [Op.eqItems]
 | i :: is, h => by
  simp only [Op.eqItems, Sem.run_bind, rep_part l w (h i (by simp)), Result.andThen_ok, run_equalIn_int w 9997 3 .i64 .i64 _ _ Try.underlying3, beq_self_eq_true, Bool.not_true, Bool.false_eq_true, if_false]
  exact rep_items l w is fun j hj => h j (by simp [hj])
theorem rep_same (l : List Int) (w : World) : (Op.equalIn 9999 87 (.agg (repC l)) (.agg (repC l))).run Try.prog w = .ok true w := by
 have h1 : Try.prog.cellsOf 3 = 1 := by kernel_rfl
 obtain ⟨i, hi⟩ : ∃ i, Try.prog.info? 3 = some i := Option.isSome_iff_exists.1 (by kernel_rfl)
 rw [run_equalIn_array w 9998 (repC l) (repC l) (n := 6) (e := 3) (by kernel_rfl) hi, h1]
 exact rep_items l w _ fun i hi => List.mem_range.1 hi
end Go.Proofs.Ytpidjkadpnjahaa
