/- Walks: records' Same and Own, the package's and the document's. -/
import Derived.Test.YtnganglmpcbcbaaBlk1
import Derived.Test.YtnganglmpcbcbaaBox
namespace Go.Proofs.Ytnganglmpcbcbaa
open Go Go.RowKit

/-- The ways through Same. -/
theorem same_ways (P : Prop) (r s : Rec)
    (a1 : (r.kind == s.kind) = false → Hid (rSame r s = false) → P)
    (a2 : (r.kind == s.kind) = true → (r.key == s.key) = false → Hid (rSame r s = false) → P)
    (a3 : (r.kind == s.kind) = true → (r.key == s.key) = true → (r.ver == s.ver) = false → Hid (rSame r s = false) → P)
    (a4 : (r.kind == s.kind) = true → (r.key == s.key) = true → (r.ver == s.ver) = true → Hid (rSame r s = (r.data == s.data)) → P) : P := by
  have H : ∀ k, rSame r s = k → Hid (rSame r s = k) := fun _ h => h
  by_cases k1 : r.kind = s.kind
  · by_cases k2 : r.key = s.key
    · by_cases k3 : r.ver = s.ver
      · exact a4 (by simpa using k1) (by simpa using k2) (by simpa using k3) (H _ (by simp [rSame, k1, k2, k3]))
      · exact a3 (by simpa using k1) (by simpa using k2) (by simpa using k3) (H _ (by simp [rSame, k3]))
    · exact a2 (by simpa using k1) (by simpa using k2) (H _ (by simp [rSame, k2]))
  · exact a1 (by simpa using k1) (H _ (by simp [rSame, k1]))

set_option maxRecDepth 100000 in
set_option maxHeartbeats 2000000 in
theorem same_w {A A' : Option Addr} {n c B n' c' B' : Nat} {r s : Rec} (w : World) (h : By w B A n c r.data) (h' : By w B' A' n' c' s.data) (hB : B ≤ w.heap.size) (hB' : B' ≤ w.heap.size) :
    Calls Try.prog 35 #[.agg #[.int .i64 r.kind, .int .i64 r.key, .int .i64 r.ver, .slice A n c], .agg #[.int .i64 s.kind, .int .i64 s.key, .int .i64 s.ver, .slice A' n' c']] w fun e w' => e = .returned (.bool (rSame r s)) ∧ Ext w w' := by
  refine same_ways _ r s ?_ ?_ ?_ ?_
  · intro q1 HW
    go_enter Try.func35, Try.ntmps35
    go_wp2
    go_ret
    exact ⟨by rw [HW.out]; rfl, (ext_alloc _ _).alloc (by simp) _⟩
  · intro q1 q2 HW
    go_enter Try.func35, Try.ntmps35
    go_wp2
    go_ret
    exact ⟨by rw [HW.out]; rfl, (ext_alloc _ _).alloc (by simp) _⟩
  · intro q1 q2 q3 HW
    go_enter Try.func35, Try.ntmps35
    go_wp2
    go_ret
    exact ⟨by rw [HW.out]; rfl, (ext_alloc _ _).alloc (by simp) _⟩
  · intro q1 q2 q3 HW
    go_enter Try.func35, Try.ntmps35
    go_wp2_with fail
    refine (equal_w _ (Sl.below h (((Below.refl _ _).alloc hB _).alloc (by simp; omega) _)) (Sl.below h' (((Below.refl _ _).alloc hB' _).alloc (by simp; omega) _))).mono ?_
    rintro e w1 ⟨rfl, m, rfl⟩
    rw [← HW.out]
    go_wp2
    go_ret
    exact ⟨rfl, ext_trans (ext_trans (ext_alloc _ _) (ext_alloc _ _)) (ext_drewN _ _)⟩

set_option maxRecDepth 100000 in
set_option maxHeartbeats 2000000 in
theorem refSame_w {A A' : Option Addr} {n c B n' c' B' : Nat} {r s : Rec} (w : World) (h : By w B A n c r.data) (h' : By w B' A' n' c' s.data) (hB : B ≤ w.heap.size) (hB' : B' ≤ w.heap.size) :
    Calls Try.prog 36 #[.agg #[.int .i64 r.kind, .int .i64 r.key, .int .i64 r.ver, .slice A n c], .agg #[.int .i64 s.kind, .int .i64 s.key, .int .i64 s.ver, .slice A' n' c']] w fun e w' => e = .returned (.bool (rSame r s)) ∧ Ext w w' := by
  refine same_ways _ r s ?_ ?_ ?_ ?_
  · intro q1 HW
    go_enter Try.func36, Try.ntmps36
    go_wp2
    go_ret
    exact ⟨by rw [HW.out]; rfl, (ext_alloc _ _).alloc (by simp) _⟩
  · intro q1 q2 HW
    go_enter Try.func36, Try.ntmps36
    go_wp2
    go_ret
    exact ⟨by rw [HW.out]; rfl, (ext_alloc _ _).alloc (by simp) _⟩
  · intro q1 q2 q3 HW
    go_enter Try.func36, Try.ntmps36
    go_wp2
    go_ret
    exact ⟨by rw [HW.out]; rfl, (ext_alloc _ _).alloc (by simp) _⟩
  · intro q1 q2 q3 HW
    have c1 := fun (o1 o2 : Obj) => run_str (Sl.below h (((Below.refl _ _).alloc hB o1).alloc (by simp; omega) o2))
    have c2 := fun (o1 o2 : Obj) => run_str (Sl.below h' (((Below.refl _ _).alloc hB' o1).alloc (by simp; omega) o2))
    go_enter Try.func36, Try.ntmps36
    go_wp2
    go_ret
    exact ⟨by rw [HW.out]; rfl, (ext_alloc _ _).alloc (by simp) _⟩

/-- What Own leaves: the same record, its bytes in a block of its own. -/
def OwnRec (w0 w : World) (v : Value) (r : Rec) : Prop :=
  ∃ A c, v = .agg #[.int .i64 r.kind, .int .i64 r.key, .int .i64 r.ver, .slice A r.data.length c] ∧ w.ownsRow w0.heap.size 5 1 (.slice A r.data.length c) r.data.length (u8s r.data)

set_option maxRecDepth 100000 in
set_option maxHeartbeats 2000000 in
theorem own_w {A : Option Addr} {n c B : Nat} {r : Rec} (w : World) (h : By w B A n c r.data) (hB : B ≤ w.heap.size) (hn : n ≤ blim) :
    Calls Try.prog 39 #[.agg #[.int .i64 r.kind, .int .i64 r.key, .int .i64 r.ver, .slice A n c]] w fun e w' => ∃ v, e = .returned v ∧ OwnRec w w' v r ∧ Ext w w' := by
  have hl := h.len
  subst hl
  go_enter Try.func39, Try.ntmps39
  go_wp2_with fail
  refine (clone_w _ (Sl.below h (((Below.refl _ _).alloc hB _).alloc (by simp; omega) _)) (by simp; omega) hn).mono ?_
  rintro e w1 ⟨v, rfl, hown, he⟩
  obtain ⟨A1, c1, rfl, hs⟩ := own_shape hown
  have b1 : Box w1 w.heap.size _ _ := ((Box.new w _ _ rfl).alloc _).ext he
  have b2 : Box w1 (w.heap.size + 1) _ _ := (Box.new _ _ _ (size_alloc _ _).symm).ext he
  have hsz := he.size
  simp only [size_alloc] at hsz
  have x0 := b1.cell 0 rfl
  have x1 := b1.cell 1 rfl
  have x2 := b1.cell 2 rfl
  have x3 := b1.cell 3 rfl
  have y0 := b2.cell 0 rfl
  have y1 := b2.cell 1 rfl
  have y2 := b2.cell 2 rfl
  have y3 := b2.cell 3 rfl
  have zx := b1.free
  have zy := b2.free
  go_wp2
  ((try simp only [Exit.inBlock, Exit.then]); refine bodyPost_ret (v := ?_) ?resultOf rfl ?_; case resultOf => (rw [results_cell1 rfl]; go_simp; rfl))
  refine ⟨_, rfl, ⟨_, _, rfl, ?_⟩, ?_⟩
  · simp only [size_alloc] at hown
    refine own_more (base := w.heap.size + 1 + 1) ?_ (by omega)
    (repeat (with_reducible (first | assumption | refine own_set ?_ (by simp <;> omega) _ | refine own_alloc ?_ _)))
  · have hd := ext_trans (ext_trans (ext_alloc _ _) (ext_alloc _ _)) he
    (repeat (with_reducible (first | assumption | exact Below.refl _ _ | refine Below.setCell ?_ (by simp <;> omega) _ | refine Below.alloc ?_ (by simp <;> omega) _ | refine Below.drew ?_ | refine below_drewN ?_ _)))

end Go.Proofs.Ytnganglmpcbcbaa
