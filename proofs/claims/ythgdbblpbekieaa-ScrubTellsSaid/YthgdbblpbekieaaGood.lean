/- Plain: right disks and stores are small enough for the walks. -/
import Derived.Test.YthgdbblpbekieaaPr7
import Derived.Test.YthgdbblpbekieaaAlive4
import Derived.Test.YthgdbblpbekieaaIndexBack
namespace Go.Proofs.Ythgdbblpbekieaa
open Go Go.RowKit

theorem good_fine {x : Dsk} (h : dGood x) : Fine x 0 := by
 refine ⟨⟨by rw [h.len]; omega, by rw [h.late]; simp, fun i => ?_, fun i => by rw [h.late]; simp⟩, h.lateIn, by rw [h.late]; simp⟩
 rcases Nat.lt_or_ge i 12 with hi | hi
 ·rw [h.blk i hi]; omega
 ·rw [List.getD_eq_getElem?_getD, List.getElem?_eq_none (by rw [h.len]; exact hi)]
  simp
theorem good_right {x : Dsk} (h : dGood x) : dRight x = true := by
 have ha : x.blocks.all (fun b => decide (b.length = 16)) = true := by
  rw [List.all_eq_true]
  intro b hb
  obtain ⟨j, hj, e⟩ := List.getElem_of_mem hb
  have := h.blk j (by rw [← h.len]; exact hj)
  rw [List.getD_eq_getElem?_getD, List.getElem?_eq_getElem hj, Option.getD_some, e] at this
  simpa using this
 unfold dRight
 rw [ha, h.len, h.late]
 rfl
/-- A store that is small enough for the walks. -/
structure StoF (s : Sto) : Prop where
 disk : Fine s.disk 40
 len : s.index.length ≤ 4096
 small : ∀ e ∈ s.index, e.rcd.data.length ≤ 4096
theorem sGood.fine {s : Sto} (g : sGood s) : StoF s := ⟨(good_fine g.disk).le (by omega), by have := right_len g.right; omega, right_small g.right⟩
theorem tDS : tD ⊆ tS := by
 intro a h
 simp only [List.mem_cons, List.not_mem_nil, or_false] at h ⊢
 rcases h with h | h <;> simp [h]
theorem StoV.mk {T : List TypeId} {w : World} {base : Nat} {x y z : Value} {i : Int} {s : Sto} (hd : DskV T w base (.agg #[x, y]) s.disk) (hi : Row eEnt T w base z s.index) (hn : s.next = i) : StoV T w base (.agg #[x, y, z, .int .i64 i]) s := by
 obtain ⟨b, l, e, hb, hl⟩ := hd
 simp only [Value.agg.injEq, Array.mk.injEq, List.cons.injEq, and_true] at e
 obtain ⟨rfl, rfl⟩ := e
 exact ⟨_, _, _, by rw [hn], hb, hl, hi⟩
end Go.Proofs.Ythgdbblpbekieaa

