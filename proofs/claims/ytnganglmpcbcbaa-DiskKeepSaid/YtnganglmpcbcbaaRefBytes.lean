/- Walks: a record's bytes, the document's. -/
import Derived.Test.YtnganglmpcbcbaaBytes
import Derived.Deep.OwnRows
namespace Go.Proofs.Ytnganglmpcbcbaa
open Go Go.RowKit

theorem made1 (z : Value) (n : Nat) : madeCells #[z] n = (List.replicate n z).toArray := by
  apply Array.ext (by simp [madeCells])
  intro i h1 h2
  simp [madeCells, Nat.mod_one]
def rowL (r : Rec) (k : Int) (j : Nat) : List UInt8 := [b8 r.kind, b8 k, b8 r.key] ++ sTwo r.ver ++ [b8 r.data.length] ++ r.data.take j ++ List.replicate (8 - j) 0
theorem rowL_six (r : Rec) (k : Int) : ([b8 r.kind, b8 k, b8 r.key] ++ sTwo r.ver ++ [b8 r.data.length]).length = 6 := rfl
theorem rowL_length (r : Rec) (k : Int) (j : Nat) (h : j ≤ r.data.length) (h8 : r.data.length ≤ 8) : (rowL r k j).length = 14 := by
  unfold rowL
  rw [List.length_append, List.length_append, rowL_six, List.length_take, List.length_replicate]
  omega
theorem rowL_at (r : Rec) (k : Int) (j : Nat) (h : j < r.data.length) (h8 : r.data.length ≤ 8) : (u8s (rowL r k j)).toArray[6 + j]? = some (.int .u8 0) := by
  rw [List.getElem?_toArray, u8s_at]
  unfold rowL
  rw [List.getElem?_append_right (by rw [List.length_append, rowL_six, List.length_take]; omega), List.length_append, rowL_six, List.length_take, Nat.min_eq_left (by omega), Nat.sub_self, List.getElem?_replicate, if_pos (by omega)]
  rfl
theorem rowL_set (r : Rec) (k : Int) (j : Nat) (x : Int) (h : j < r.data.length) (h8 : r.data.length ≤ 8) (hx : x = ((r.data.getD j 0).toNat : Int)) :
    (u8s (rowL r k j)).toArray.setIfInBounds (6 + j) (.int .u8 x) = (u8s (rowL r k (j + 1))).toArray := by
  subst hx
  rw [List.setIfInBounds_toArray]
  congr 1
  unfold rowL
  rw [List.take_succ_eq_append_getElem h, show 8 - j = (8 - (j + 1)) + 1 by omega, List.replicate_succ]
  simp only [u8s_append]
  rw [List.set_append_right _ _ (by simp [u8s, sTwo]; omega)]
  rw [show 6 + j - (u8s [b8 r.kind, b8 k, b8 r.key] ++ u8s (sTwo r.ver) ++ u8s [b8 r.data.length] ++ u8s (r.data.take j)).length = 0 by simp [u8s, sTwo]; omega]
  simp [u8s, u8v, List.getD_eq_getElem?_getD, List.getElem?_eq_getElem h]
theorem rowL_body (r : Rec) (k : Int) : rowL r k r.data.length = rBody r k := by
  unfold rowL rBody
  rw [List.take_length]

theorem rowL_zero (r : Rec) (k : Int) (h0 : 0 ≤ r.ver) (h1 : r.ver < 65536) (h8 : r.data.length ≤ 8) :
    ((((((madeCells #[.int .u8 0] 14).setIfInBounds 0 (.int .u8 (r.kind % 256))).setIfInBounds 1 (.int .u8 (k % 256))).setIfInBounds 2 (.int .u8 (r.key % 256))).setIfInBounds 3 (.int .u8 (r.ver / 256))).setIfInBounds 4 (.int .u8 (r.ver % 256))).setIfInBounds 5 (.int .u8 (r.data.length : Int))
      = (u8s (rowL r k 0)).toArray := by
  have e1 : u8s [b8 r.kind, b8 k, b8 r.key] = [.int .u8 (r.kind % 256), .int .u8 (k % 256), .int .u8 (r.key % 256)] := by simp [u8s, b8v]
  have e2 : u8s [b8 (r.data.length : Int)] = [.int .u8 (r.data.length : Int)] := by simp [u8s, b8v]; omega
  unfold rowL
  have e3 := made1 (.int .u8 0) 14
  simp only [u8s_append, two8v _ h0 h1, e1, e2, e3, List.take_zero]
  simp [u8s, u8v, List.replicate]

set_option maxRecDepth 100000 in
set_option maxHeartbeats 2000000 in
theorem refBytes_w {A : Option Addr} {n c B : Nat} {r : Rec} {k : Int} (w : World) (h : By w B A n c r.data) (hB : B ≤ w.heap.size) (hn : n ≤ 8) (h0 : 0 ≤ r.ver) (h1 : r.ver < 65536) :
    Calls Try.prog 41 #[.agg #[.int .i64 r.kind, .int .i64 r.key, .int .i64 r.ver, .slice A n c], .int .i64 k] w fun e w' => ∃ v, e = .returned v ∧ w'.ownsRow w.heap.size 5 1 v 16 (u8s (rBytes r k)) ∧ Ext w w' := by
  have hl := h.len
  subst hl
  have q1 : (r.data.length : Int) % 256 = (r.data.length : Int) := by omega
  have hmk : ∀ w, (Instr.makeSlice 22 (.int .i64 14) (.int .i64 14)).run Try.prog w = .ok (.slice (some ⟨w.heap.size, 0, none⟩) 14 14) (w.alloc (.cells (madeCells #[.int .u8 0] 14) 5)) :=
    fun w => run_make_row' 22 5 (.int .u8 0) 1 Try.underlying22 info_u8 rfl .i64 .i64 14 (by omega) (by omega) w
  go_enter Try.func41, Try.ntmps41
  go_wp2_with fail
  obtain ⟨W, hW⟩ : ∃ W, W = (w.alloc (.cells #[.int .i64 r.kind, .int .i64 r.key, .int .i64 r.ver, .slice A r.data.length c] 32)).alloc (.cells (madeCells #[.int .u8 0] 14) 5) := ⟨_, rfl⟩
  rw [← hW]
  have bx : Box W w.heap.size 32 #[.int .i64 r.kind, .int .i64 r.key, .int .i64 r.ver, .slice A r.data.length c] := by rw [hW]; exact (Box.new w _ _ rfl).alloc _
  have he : Ext w W := by rw [hW]; exact ext_trans (ext_alloc _ _) (ext_alloc _ _)
  have hW2 : W.heap.size = w.heap.size + 1 + 1 := by rw [hW]; simp
  have by_ : Box W (w.heap.size + 1) 5 (List.replicate 14 (.int .u8 0)).toArray := by
    rw [hW, made1]
    exact Box.new _ _ _ (size_alloc _ _).symm
  clear hW
  have x0 := bx.cell 0 rfl
  have x1 := bx.cell 1 rfl
  have x2 := bx.cell 2 rfl
  have x3 := bx.cell 3 rfl
  refine wp_region_below (w.heap.size + 1) 38 [0, 1, 2, 3, 4, 5, 6, 7, 8, 9, 10, 11, 12, 13, 14, 15, 16, 17, 18, 19, 20, 21, 22, 23, 24, 25, 26, 28, 30, 32, 34, 36] false rfl (by kernel_rfl) (by kernel_rfl) ?_
  obtain ⟨D, hD⟩ : ∃ D, D = W.drew := ⟨_, rfl⟩
  rw [← hD]
  have bxd : Box D w.heap.size 32 #[.int .i64 r.kind, .int .i64 r.key, .int .i64 r.ver, .slice A r.data.length c] := by rw [hD]; exact bx
  have by_ : Box D (w.heap.size + 1) 5 (List.replicate 14 (.int .u8 0)).toArray := by rw [hD]; exact by_
  have hdD : Below (w.heap.size + 1) W D := by rw [hD]; exact (Below.refl _ _).drew
  clear hD
  have y0 := by_.cell 0 (v := .int .u8 0) rfl
  have y1 := by_.cell 1 (v := .int .u8 0) rfl
  have y2 := by_.cell 2 (v := .int .u8 0) rfl
  have y3 := by_.cell 3 (v := .int .u8 0) rfl
  have y4 := by_.cell 4 (v := .int .u8 0) rfl
  have y5 := by_.cell 5 (v := .int .u8 0) rfl
  have zy := by_.free
  apply mixF 0 (by kernel_rfl) (by rfl) (by rfl)
  · (intro w' hx; go_simp <;> with_reducible rfl)
  simp only [Act.put, List.setIfInBounds_toArray, List.set_cons_zero, List.set_cons_succ]
  apply mixF 1 (by kernel_rfl) (by rfl) (by rfl)
  · (intro w' hx; go_simp <;> with_reducible rfl)
  simp only [Act.put, List.setIfInBounds_toArray, List.set_cons_zero, List.set_cons_succ]
  apply mixF 2 (by kernel_rfl) (by rfl) (by rfl)
  · (intro w' hx; go_simp <;> with_reducible rfl)
  simp only [Act.put, List.setIfInBounds_toArray, List.set_cons_zero, List.set_cons_succ]
  apply mixF 3 (by kernel_rfl) (by rfl) (by rfl)
  · (intro w' hx; go_simp <;> with_reducible rfl)
  simp only [Act.put, List.setIfInBounds_toArray, List.set_cons_zero, List.set_cons_succ]
  apply mixF 4 (by kernel_rfl) (by rfl) (by rfl)
  · (intro w' hx; go_simp <;> with_reducible rfl)
  simp only [Act.put, List.setIfInBounds_toArray, List.set_cons_zero, List.set_cons_succ]
  apply mixF 5 (by kernel_rfl) (by rfl) (by rfl)
  · (intro w' hx; go_simp <;> with_reducible rfl)
  simp only [Act.put, List.setIfInBounds_toArray, List.set_cons_zero, List.set_cons_succ]
  apply mixF 6 (by kernel_rfl) (by rfl) (by rfl)
  · (intro w' hx; go_simp <;> with_reducible rfl)
  simp only [Act.put, List.setIfInBounds_toArray, List.set_cons_zero, List.set_cons_succ]
  apply mixF 7 (by kernel_rfl) (by rfl) (by rfl)
  · (intro w' hx; have q := (bxd.below hx (by omega)).cell 0 rfl; go_simp <;> with_reducible rfl)
  simp only [Act.put, List.setIfInBounds_toArray, List.set_cons_zero, List.set_cons_succ]
  apply mixF 8 (by kernel_rfl) (by rfl) (by rfl)
  · (intro w' hx; go_simp <;> with_reducible rfl)
  simp only [Act.put, List.setIfInBounds_toArray, List.set_cons_zero, List.set_cons_succ]
  apply mixF 9 (by kernel_rfl) (by rfl) (by rfl)
  · (intro w' hx; go_simp <;> with_reducible rfl)
  simp only [Act.put, List.setIfInBounds_toArray, List.set_cons_zero, List.set_cons_succ]
  apply mixF 10 (by kernel_rfl) (by rfl) (by rfl)
  · (intro w' hx; go_simp <;> with_reducible rfl)
  simp only [Act.put, List.setIfInBounds_toArray, List.set_cons_zero, List.set_cons_succ]
  apply mixF 11 (by kernel_rfl) (by rfl) (by rfl)
  · (intro w' hx; go_simp <;> with_reducible rfl)
  simp only [Act.put, List.setIfInBounds_toArray, List.set_cons_zero, List.set_cons_succ]
  apply mixF 12 (by kernel_rfl) (by rfl) (by rfl)
  · (intro w' hx; have q := (bxd.below hx (by omega)).cell 1 rfl; go_simp <;> with_reducible rfl)
  simp only [Act.put, List.setIfInBounds_toArray, List.set_cons_zero, List.set_cons_succ]
  apply mixF 13 (by kernel_rfl) (by rfl) (by rfl)
  · (intro w' hx; go_simp <;> with_reducible rfl)
  simp only [Act.put, List.setIfInBounds_toArray, List.set_cons_zero, List.set_cons_succ]
  apply mixF 14 (by kernel_rfl) (by rfl) (by rfl)
  · (intro w' hx; go_simp <;> with_reducible rfl)
  simp only [Act.put, List.setIfInBounds_toArray, List.set_cons_zero, List.set_cons_succ]
  apply mixF 15 (by kernel_rfl) (by rfl) (by rfl)
  · (intro w' hx; have q := (bxd.below hx (by omega)).cell 2 rfl; go_simp <;> with_reducible rfl)
  simp only [Act.put, List.setIfInBounds_toArray, List.set_cons_zero, List.set_cons_succ]
  apply mixF 16 (by kernel_rfl) (by rfl) (by rfl)
  · (intro w' hx; go_simp <;> with_reducible rfl)
  simp only [Act.put, List.setIfInBounds_toArray, List.set_cons_zero, List.set_cons_succ]
  apply mixF 17 (by kernel_rfl) (by rfl) (by rfl)
  · (intro w' hx; go_simp <;> with_reducible rfl)
  simp only [Act.put, List.setIfInBounds_toArray, List.set_cons_zero, List.set_cons_succ]
  apply mixF 18 (by kernel_rfl) (by rfl) (by rfl)
  · (intro w' hx; go_simp <;> with_reducible rfl)
  simp only [Act.put, List.setIfInBounds_toArray, List.set_cons_zero, List.set_cons_succ]
  apply mixF 19 (by kernel_rfl) (by rfl) (by rfl)
  · (intro w' hx; have q := (bxd.below hx (by omega)).cell 2 rfl; go_simp <;> with_reducible rfl)
  simp only [Act.put, List.setIfInBounds_toArray, List.set_cons_zero, List.set_cons_succ]
  apply mixF 20 (by kernel_rfl) (by rfl) (by rfl)
  · (intro w' hx; go_simp <;> with_reducible rfl)
  simp only [Act.put, List.setIfInBounds_toArray, List.set_cons_zero, List.set_cons_succ]
  apply mixF 21 (by kernel_rfl) (by rfl) (by rfl)
  · (intro w' hx; go_simp <;> with_reducible rfl)
  simp only [Act.put, List.setIfInBounds_toArray, List.set_cons_zero, List.set_cons_succ]
  apply mixF 22 (by kernel_rfl) (by rfl) (by rfl)
  · (intro w' hx; go_simp <;> with_reducible rfl)
  simp only [Act.put, List.setIfInBounds_toArray, List.set_cons_zero, List.set_cons_succ]
  apply mixF 23 (by kernel_rfl) (by rfl) (by rfl)
  · (intro w' hx; have q := (bxd.below hx (by omega)).cell 3 rfl; go_simp <;> with_reducible rfl)
  simp only [Act.put, List.setIfInBounds_toArray, List.set_cons_zero, List.set_cons_succ]
  apply mixF 24 (by kernel_rfl) (by rfl) (by rfl)
  · (intro w' hx; go_simp <;> with_reducible rfl)
  simp only [Act.put, List.setIfInBounds_toArray, List.set_cons_zero, List.set_cons_succ]
  apply mixF 25 (by kernel_rfl) (by rfl) (by rfl)
  · (intro w' hx; go_simp <;> with_reducible rfl)
  simp only [Act.put, List.setIfInBounds_toArray, List.set_cons_zero, List.set_cons_succ]
  apply mixF 26 (by kernel_rfl) (by rfl) (by rfl)
  · (intro w' hx; go_simp <;> with_reducible rfl)
  simp only [Act.put, List.setIfInBounds_toArray, List.set_cons_zero, List.set_cons_succ]
  refine mixS 27 (by kernel_rfl) (by kernel_rfl) (by rfl) (by rfl) (fun K hK => ?_)
  go_wp2
  refine hK.out _ _ (Below.setCell (Below.refl _ _) (by simp) _) ?_
  clear hK K
  try simp only [Act.put, List.setIfInBounds_toArray, List.set_cons_zero, List.set_cons_succ]
  apply mixF 28 (by kernel_rfl) (by rfl) (by rfl)
  · (intro w' hx; go_simp <;> with_reducible rfl)
  simp only [Act.put, List.setIfInBounds_toArray, List.set_cons_zero, List.set_cons_succ]
  refine mixS 29 (by kernel_rfl) (by kernel_rfl) (by rfl) (by rfl) (fun K hK => ?_)
  go_wp2
  refine hK.out _ _ (Below.setCell (Below.refl _ _) (by simp) _) ?_
  clear hK K
  try simp only [Act.put, List.setIfInBounds_toArray, List.set_cons_zero, List.set_cons_succ]
  apply mixF 30 (by kernel_rfl) (by rfl) (by rfl)
  · (intro w' hx; go_simp <;> with_reducible rfl)
  simp only [Act.put, List.setIfInBounds_toArray, List.set_cons_zero, List.set_cons_succ]
  refine mixS 31 (by kernel_rfl) (by kernel_rfl) (by rfl) (by rfl) (fun K hK => ?_)
  go_wp2
  refine hK.out _ _ (Below.setCell (Below.refl _ _) (by simp) _) ?_
  clear hK K
  try simp only [Act.put, List.setIfInBounds_toArray, List.set_cons_zero, List.set_cons_succ]
  apply mixF 32 (by kernel_rfl) (by rfl) (by rfl)
  · (intro w' hx; go_simp <;> with_reducible rfl)
  simp only [Act.put, List.setIfInBounds_toArray, List.set_cons_zero, List.set_cons_succ]
  refine mixS 33 (by kernel_rfl) (by kernel_rfl) (by rfl) (by rfl) (fun K hK => ?_)
  go_wp2
  refine hK.out _ _ (Below.setCell (Below.refl _ _) (by simp) _) ?_
  clear hK K
  try simp only [Act.put, List.setIfInBounds_toArray, List.set_cons_zero, List.set_cons_succ]
  apply mixF 34 (by kernel_rfl) (by rfl) (by rfl)
  · (intro w' hx; go_simp <;> with_reducible rfl)
  simp only [Act.put, List.setIfInBounds_toArray, List.set_cons_zero, List.set_cons_succ]
  refine mixS 35 (by kernel_rfl) (by kernel_rfl) (by rfl) (by rfl) (fun K hK => ?_)
  go_wp2
  refine hK.out _ _ (Below.setCell (Below.refl _ _) (by simp) _) ?_
  clear hK K
  try simp only [Act.put, List.setIfInBounds_toArray, List.set_cons_zero, List.set_cons_succ]
  apply mixF 36 (by kernel_rfl) (by rfl) (by rfl)
  · (intro w' hx; go_simp <;> with_reducible rfl)
  simp only [Act.put, List.setIfInBounds_toArray, List.set_cons_zero, List.set_cons_succ]
  refine mixS 37 (by kernel_rfl) (by kernel_rfl) (by rfl) (by rfl) (fun K hK => ?_)
  go_wp2
  refine hK.out _ _ (Below.setCell (Below.refl _ _) (by simp) _) ?_
  clear hK K
  try simp only [Act.put, List.setIfInBounds_toArray, List.set_cons_zero, List.set_cons_succ]
  refine mixEnd (by kernel_rfl) ?_
  clear x0 x1 x2 x3 y0 y1 y2 y3 y4 y5 zy
  obtain ⟨V, hV⟩ : ∃ V, V = ((((((D.setCell ⟨w.heap.size + 1, 0, none⟩ (.int .u8 (r.kind % 256))).setCell ⟨w.heap.size + 1, 1, none⟩ (.int .u8 (k % 256))).setCell ⟨w.heap.size + 1, 2, none⟩ (.int .u8 (r.key % 256))).setCell ⟨w.heap.size + 1, 3, none⟩ (.int .u8 (r.ver / 256))).setCell ⟨w.heap.size + 1, 4, none⟩ (.int .u8 (r.ver % 256))).setCell ⟨w.heap.size + 1, 5, none⟩ (.int .u8 (r.data.length : Int))) := ⟨_, rfl⟩
  rw [← hV]
  have b2 : Box V (w.heap.size + 1) 5 (u8s (rowL r k 0)).toArray := by
    rw [hV, ← rowL_zero r k h0 h1 hn, made1]
    exact (((((by_.set 0 _).set 1 _).set 2 _).set 3 _).set 4 _).set 5 _
  have hd : Below (w.heap.size + 1) W V := by
    rw [hV]
    (repeat (with_reducible (first | assumption | exact Below.refl _ _ | refine Below.setCell ?_ (by simp <;> omega) _ | refine Below.alloc ?_ (by simp <;> omega) _ | refine Below.drew ?_ | refine below_drewN ?_ _)))
  have x3 := (bx.below hd (by omega)).cell 3 rfl
  clear hV by_
  go_wp2_with fail
  go_loopw [44] (fun i wr => ∃ j : Nat, j ≤ r.data.length ∧ i = .int .i64 j ∧ Box wr (w.heap.size + 1) 5 (u8s (rowL r k j)).toArray ∧ Below (w.heap.size + 1) W wr) (fun i _ => r.data.length - (intOf i).toNat)
  case atStart => exact ⟨0, Nat.zero_le _, rfl, b2, hd⟩
  case round =>
    obtain ⟨j, hj, rfl, bj, hdj⟩ := hrel
    by_cases hlt : j < r.data.length
    · obtain ⟨b, o, x, rfl, _, hx, hx0, hx1, Hx⟩ := By.byte (l := r.data) (Sl.below h ((he.mono hB).trans (hdj.mono (by omega)))) hlt
      have i0 : (0 : Int) ≤ (j : Int) := by omega
      have i1 : (j : Int) < (r.data.length : Int) := by omega
      have i2 : (6 : Int) + (j : Int) < 14 := by omega
      have i3 : (0 : Int) ≤ 6 + (j : Int) := by omega
      have i4 : IntKind.i64.wrap (6 + (j : Int)) = 6 + (j : Int) := IntWalk.i64_in _ (by omega)
      have i5 : ((6 : Int) + (j : Int)).toNat = 6 + j := by omega
      have y := bj.cell (6 + j) (rowL_at r k j hlt hn)
      have z := bj.free (6 + j)
      go_wp2_with fail
      go_roundw
      case rel =>
        refine ⟨j + 1, by omega, by go_num, ?_, hdj.setCell (by simp) _⟩
        rw [← rowL_set r k j x hlt hn Hx.out]
        exact bj.set _ _
      case measure => simp [intOf]; omega
    · have hjn : j = r.data.length := by omega
      subst hjn
      rw [rowL_body] at bj
      have hlb : (rBody r k).length = 14 := by rw [← rowL_body]; exact rowL_length r k _ (Nat.le_refl _) hn
      have hown := own_box (base := w.heap.size + 1) (n := 14) (size := 1) bj (Nat.le_refl _) (by rw [u8s_length, hlb]) (by unfold maxLen; omega)
      go_wp2_with fail
      have hzr := hdj.size
      refine (refSeal_w _ _ _ _ _ _ (by_own hown) (Nat.le_refl _) (by rw [blim_def]; omega)).mono ?_
      rintro e w8 ⟨v8, rfl, hown8, he8⟩
      go_wp2
      go_ret
      exact ⟨v8, rfl, own_more hown8 (by omega), he.trans ((hdj.mono (by omega)).trans (he8.mono (by omega)))⟩

end Go.Proofs.Ytnganglmpcbcbaa
