/- The statement IndexBack: the walk of the law. -/
import Derived.Test.YtnganglmpcbcbaaAlive5
namespace Go.Proofs.Ytnganglmpcbcbaa
open Go Go.RowKit

/-- A row of one entry, just laid. -/
theorem row_one {w : World} {base : Nat} {e : Ent} {u : Value} (h : ByT w base u e.rcd.data) : Row eEnt [85] (w.alloc (.cells (cE e u) 85)) base (.slice (some ⟨w.heap.size, 0, none⟩) 1 1) [e] := by
  refine OwnRow.row (rb := w.heap.size) (base := base) (OwnRow.shut5 (Nat.le_refl _) (Box.new w _ _ rfl) rfl (Nat.le_refl _) (by unfold maxLen; omega) rfl (fun i hi => ?_)) (by decide) (Nat.le_refl _)
  obtain rfl : i = 0 := by omega
  exact ⟨u, rfl, rfl, rfl, rfl, rfl, h.ext (ext_alloc _ _)⟩
theorem filter_len (p : Int → Bool) : ∀ l : List Int, l.length = (l.filter p).length + (l.filter fun x => !p x).length
  | [] => rfl
  | x :: l => by
    have := filter_len p l
    cases h : p x <;> simp [h] <;> omega
theorem nodup_len : ∀ (n : Nat) (l : List Int), l.Pairwise (· ≠ ·) → (∀ x ∈ l, 0 ≤ x ∧ x < n) → l.length ≤ n
  | 0, l, _, h => by
    cases l with
    | nil => simp
    | cons x l => have := h x (by simp); omega
  | n + 1, l, hp, h => by
    have h1 := nodup_len n (l.filter fun x => !decide (x = (n : Int))) (hp.filter _) (fun x hx => by
      rw [List.mem_filter] at hx
      have := h x hx.1
      have h2 : x ≠ n := by simpa using hx.2
      omega)
    have h2 : (l.filter fun x => decide (x = (n : Int))).length ≤ 1 := by
      have hp2 := hp.filter (fun x => decide (x = (n : Int)))
      have ha : ∀ x ∈ l.filter (fun x => decide (x = (n : Int))), x = n := fun x hx => by simpa using (List.mem_filter.1 hx).2
      generalize l.filter (fun x => decide (x = (n : Int))) = m at hp2 ha
      match m, hp2, ha with
      | [], _, _ => simp
      | [x], _, _ => simp
      | x :: y :: r, hp2, ha => exact absurd ((ha x (by simp)).trans (ha y (by simp)).symm) ((List.pairwise_cons.1 hp2).1 y (by simp))
    have h3 : l.length = (l.filter fun x => decide (x = (n : Int))).length + (l.filter fun x => !decide (x = (n : Int))).length := by
      exact filter_len _ l
    omega
theorem right_len {l : List Ent} (h : iRight l) : l.length ≤ 1001 := by
  have h1 := nodup_len 1001 (l.map (·.pair)) (by rw [List.pairwise_map]; exact h.2.2) (fun x hx => by
    obtain ⟨e, he, rfl⟩ := List.mem_map.1 hx
    have := (eOne_iff e).1 (h.1 e he)
    omega)
  simpa using h1
theorem right_small {l : List Ent} (h : iRight l) : ∀ e ∈ l, e.rcd.data.length ≤ 4096 := fun e he => by
  have := (rWrong_zero' ((eOne_iff e).1 (h.1 e he)).1).1
  omega
theorem right_single (e : Ent) : iRight [e] ↔ eOne e = true := ⟨fun h => h.1 e (by simp), fun h => ⟨by simpa using h, List.pairwise_singleton _ _, List.pairwise_singleton _ _⟩⟩
theorem esSame_id (l : List Ent) : esSame l l = true := by simp [esSame]

set_option maxRecDepth 100000 in
set_option maxHeartbeats 4000000 in
theorem indexBack_law (w : World) {v ev : Value} {l : List Ent} {e : Ent} (h : Row eEnt [] w w.heap.size v l) (hev : EntV w w.heap.size ev e) :
    Calls Try.prog 19 #[v, ev] w fun e' w' => e' = .returned (.bool true) ∧ Ext w w' := by
  obtain ⟨A, n, c, rfl, hc, hcm, HN⟩ := h.form
  obtain ⟨A0, n0, c0, rfl, _, hye⟩ := hev.at_
  clear hev
  unfold maxLen at hcm
  go_enter Try.func19, Try.ntmps19
  go_upto_region 1 with (fail)
  generalize hwn : World.alloc w _ = W
  have hx : Ext w W := by rw [← hwn]; exact ext_alloc _ _
  have b3 : Box W w.heap.size 85 #[.int .i64 e.rcd.kind, .int .i64 e.rcd.key, .int .i64 e.rcd.ver, .slice A0 n0 c0, .int .i64 e.pair] := by rw [← hwn]; exact Box.new _ _ _ rfl
  clear hwn
  have h := h.ext hx
  have hye := hye.ext hx
  go_wp2_with fail
  refine (alive5_w _).mono ?_
  rintro e0 w0 ⟨rfl, he⟩
  have hx := ext_trans hx he
  have h := h.ext he
  have hye := hye.ext he
  have b3 := b3.ext he
  clear he
  go_wp2_with fail
  refine (rightIndex_v h).mono ?_
  rintro e1 w1 ⟨r1, rfl, HR1, he⟩
  have hx := ext_trans hx he
  have h := h.ext he
  have hye := hye.ext he
  have b3 := b3.ext he
  clear he
  cases r1 with
  | false =>
    go_wp2_with fail
    go_ret
    exact ⟨rfl, hx⟩
  | true =>
    have HR := Lib.hid (HR1.out.1 rfl)
    clear HR1
    obtain ⟨b3_0, b3_1, b3_2, b3_3, b3_4⟩ := b3.c5
    have b3_z := b3.free
    have b3_l := b3.lt
    go_wp2_with fail
    refine (rightIndex_v (row_one hye)).mono ?_
    rintro e2 w2 ⟨r2, rfl, HR2, he⟩
    try clear b3_0 b3_1 b3_2 b3_3 b3_4 b3_z b3_l
    have he := ext_trans (ext_alloc _ _) he
    have hx := ext_trans hx he
    have h := h.ext he
    have hye := hye.ext he
    have b3 := b3.ext he
    clear he
    cases r2 with
    | false =>
      go_wp2_with fail
      go_ret
      exact ⟨rfl, hx⟩
    | true =>
      have HE := Lib.hid ((right_single e).1 (HR2.out.1 rfl))
      clear HR2
      have hl := right_len HR.out
      have HS := Lib.hid (right_small HR.out)
      go_wp2_with fail
      go_loopw [25] (fun i wr => ∃ a : Nat, a ≤ n ∧ i = .int .i64 a ∧ Hid (∀ j, j < a → (l.getD j ⟨rZero, 0⟩).pair ≠ e.pair ∧ ¬ ((l.getD j ⟨rZero, 0⟩).rcd.key = e.rcd.key ∧ (l.getD j ⟨rZero, 0⟩).rcd.ver = e.rcd.ver)) ∧ Ext w2 wr) (fun i _ => n - (intOf i).toNat)
      case atStart => exact ⟨0, by omega, rfl, fun j hj => (by omega), Below.refl _ _⟩
      case round =>
        obtain ⟨a, ha, rfl, HJ, hd⟩ := hrel
        have hx := ext_trans hx hd
        have b3 := b3.ext hd
        have hye := hye.ext hd
        by_cases hlt : a < n
        · have i0 : (0 : Int) ≤ (a : Int) := by omega
          have i1 : (a : Int) < (n : Int) := by omega
          obtain ⟨g1, o1, u1, rfl, hg1, hu1, f1⟩ := h.ent_x hlt
          have HJ2 := Lib.hid (fun h0 j (hj : j < a + 1) => if hij : j = a then (by rw [hij]; exact h0 : (l.getD j ⟨rZero, 0⟩).pair ≠ e.pair ∧ ¬ ((l.getD j ⟨rZero, 0⟩).rcd.key = e.rcd.key ∧ (l.getD j ⟨rZero, 0⟩).rcd.ver = e.rcd.ver)) else HJ.out j (by omega))
          generalize l.getD a ⟨rZero, 0⟩ = x at f1 HJ2 hu1
          obtain ⟨A1, n1, c1, rfl, _, _⟩ := hu1.form
          obtain ⟨x0, x1, x2, x3, x4⟩ := f1 _ hd
          clear f1 hu1
          have lb := b3.lt
          obtain ⟨b3_0, b3_1, b3_2, b3_3, b3_4⟩ := b3.c5
          have b3_z := b3.free
          have b3_l := b3.lt
          by_cases k1 : x.pair = e.pair
          · have q1 : (x.pair == e.pair) = true := by simpa using k1
            clear k1
            go_wp2_with fail
            go_ret
            exact ⟨rfl, hx.alloc hx.size _⟩
          · have q1 : (x.pair == e.pair) = false := by simpa using k1
            have K1 := Lib.hid k1
            clear k1
            by_cases k2 : x.rcd.key = e.rcd.key
            · have q2 : (x.rcd.key == e.rcd.key) = true := by simpa using k2
              have K2 := Lib.hid k2
              clear k2
              by_cases k3 : x.rcd.ver = e.rcd.ver
              · have q3 : (x.rcd.ver == e.rcd.ver) = true := by simpa using k3
                clear k3
                go_wp2_with fail
                go_ret
                exact ⟨rfl, hx.alloc hx.size _⟩
              · have q3 : (x.rcd.ver == e.rcd.ver) = false := by simpa using k3
                have K3 := Lib.hid k3
                clear k3
                go_wp2_with fail
                refine ⟨⟨a + 1, by omega, rfl, HJ2.out ⟨K1.out, fun hh => K3.out hh.2⟩, hd.alloc hd.size _⟩, ?_⟩
                simp only [intOf]
                omega
            · have q2 : (x.rcd.key == e.rcd.key) = false := by simpa using k2
              have K2 := Lib.hid k2
              clear k2
              go_wp2_with fail
              refine ⟨⟨a + 1, by omega, rfl, HJ2.out ⟨K1.out, fun hh => K2.out hh.1⟩, hd.alloc hd.size _⟩, ?_⟩
              simp only [intOf]
              omega
        · obtain rfl : a = n := by omega
          have each : ∀ x ∈ l, x.pair ≠ e.pair ∧ ¬ (x.rcd.key = e.rcd.key ∧ x.rcd.ver = e.rcd.ver) := fun x hx => by
            obtain ⟨j, hj, rfl⟩ := List.getElem_of_mem hx
            have := HJ.out j (by rw [HN.out]; exact hj)
            rwa [List.getD_eq_getElem?_getD, List.getElem?_eq_getElem hj] at this
          have HP := Lib.hid (fun x hx => (each x hx).1)
          have HK := Lib.hid (fun x hx => (each x hx).2)
          clear each
          have h := h.ext hd
          have hse : e.rcd.data.length ≤ 4096 := by have := (rWrong_zero' ((eOne_iff e).1 HE.out).1).1; omega
          obtain ⟨b3_0, b3_1, b3_2, b3_3, b3_4⟩ := b3.c5
          have b3_z := b3.free
          have b3_l := b3.lt
          go_wp2_with fail
          refine (ixAdd_v (e := e) h (by omega) HS.out ⟨_, rfl, hye⟩ hse).mono ?_
          rintro e4 w4 ⟨v4, l4, rfl, hp4, hs4, own4, he⟩
          try clear b3_0 b3_1 b3_2 b3_3 b3_4 b3_z b3_l b3_0 b3_1 b3_2 b3_3 b3_4 b3_z b3_l
          have hx := ext_trans hx he
          have h := h.ext he
          have hye := hye.ext he
          have b3 := b3.ext he
          clear he
          have hpp : (l ++ [e]).Pairwise fun a b => a.pair ≠ b.pair := by
            rw [List.pairwise_append]
            exact ⟨HR.out.2.2, List.pairwise_singleton _ _, fun a ha b hb => by rw [List.mem_singleton.1 hb]; exact HP.out a ha⟩
          obtain rfl : l4 = iIns l e := ins_unique hp4 HR.out.2.1 HP.out (sorted_strict hs4 (perm_pairs hp4 hpp))
          clear hp4 hs4 hpp
          have HRM := Lib.hid (iRight_ins HR.out HE.out HP.out)
          have HF := Lib.hid (iFind_ins HK.out)
          have HDR := Lib.hid (iDrop_ins HP.out)
          have hml : (iIns l e).length ≤ 4096 := by rw [iIns_length]; omega
          have HSM := Lib.hid (right_small HRM.out)
          have r4 := own4.row (T := [85]) (base := 0) (by decide) (Nat.le_refl _)
          clear own4
          generalize iIns l e = m at r4 HRM HF HDR hml HSM
          obtain ⟨A4, n4, c4, rfl, _, _, _⟩ := r4.form
          obtain ⟨b3_0, b3_1, b3_2, b3_3, b3_4⟩ := b3.c5
          have b3_z := b3.free
          have b3_l := b3.lt
          go_wp2_with fail
          refine (ixFind_v (k := e.rcd.key) (x := e.rcd.ver) r4 HSM.out).mono ?_
          rintro e5 w5 ⟨v5, b5, rfl, hf5, he⟩
          try clear b3_0 b3_1 b3_2 b3_3 b3_4 b3_z b3_l
          have hx := ext_trans hx he
          have h := h.ext he
          have hye := hye.ext he
          have b3 := b3.ext he
          have r4 := r4.ext he
          clear he
          obtain ⟨hb5, hv5⟩ := hf5
          rw [HF.out.1] at hb5 hv5
          obtain rfl : b5 = true := hb5
          obtain ⟨A5, n5, c5, rfl, _, hy5⟩ := hv5.at_
          simp only [Option.getD_some] at hy5
          clear hv5
          go_upto_region 13 with (fail)
          generalize hwn : World.alloc w5 _ = w6
          have he : Ext w5 w6 := by rw [← hwn]; exact ext_alloc _ _
          have b8 : Box w6 w5.heap.size 85 #[.int .i64 e.rcd.kind, .int .i64 e.rcd.key, .int .i64 e.rcd.ver, .slice A5 n5 c5, .int .i64 e.pair] := by rw [← hwn]; exact Box.new _ _ _ (by simp)
          clear hwn
          have hx := ext_trans hx he
          have h := h.ext he
          have hye := hye.ext he
          have b3 := b3.ext he
          have r4 := r4.ext he
          have hy5 := hy5.ext he
          clear he
          obtain ⟨b3_0, b3_1, b3_2, b3_3, b3_4⟩ := b3.c5
          have b3_z := b3.free
          have b3_l := b3.lt
          go_wp2_with fail
          refine (ixFind_v (k := e.rcd.key) (x := e.rcd.ver) h HS.out).mono ?_
          rintro e7 w7 ⟨v7, b7, rfl, hf7, he⟩
          try clear b3_0 b3_1 b3_2 b3_3 b3_4 b3_z b3_l
          have hx := ext_trans hx he
          have h := h.ext he
          have hye := hye.ext he
          have b3 := b3.ext he
          have r4 := r4.ext he
          have hy5 := hy5.ext he
          have b8 := b8.ext he
          clear he
          obtain ⟨hb7, hv7⟩ := hf7
          rw [HF.out.2] at hb7 hv7
          obtain rfl : b7 = false := hb7
          obtain ⟨A7, n7, c7, rfl, _, _⟩ := hv7.at_
          simp only [Option.getD_none]
          clear hv7
          go_upto_region 14 with (fail)
          generalize hwn : World.alloc w7 _ = w8
          have he : Ext w7 w8 := by rw [← hwn]; exact ext_alloc _ _
          clear hwn
          have hx := ext_trans hx he
          have h := h.ext he
          have hye := hye.ext he
          have b3 := b3.ext he
          have r4 := r4.ext he
          have hy5 := hy5.ext he
          have b8 := b8.ext he
          clear he
          go_wp2_with fail
          refine (rightIndex_v r4).mono ?_
          rintro e9 w9 ⟨r9, rfl, HR9, he⟩
          have hx := ext_trans hx he
          have h := h.ext he
          have hye := hye.ext he
          have b3 := b3.ext he
          have r4 := r4.ext he
          have hy5 := hy5.ext he
          have b8 := b8.ext he
          clear he
          obtain rfl : r9 = true := HR9.out.2 HRM.out
          clear HR9
          obtain ⟨b3_0, b3_1, b3_2, b3_3, b3_4⟩ := b3.c5
          have b3_z := b3.free
          have b3_l := b3.lt
          obtain ⟨b8_0, b8_1, b8_2, b8_3, b8_4⟩ := b8.c5
          have b8_z := b8.free
          have b8_l := b8.lt
          have R1 := row_one (w := w9) (base := w9.heap.size) (e := e) hy5.all
          have R2 := row_one (w := w9.alloc (.cells (cE e (.slice A5 n5 c5)) 85)) (base := (w9.alloc (.cells (cE e (.slice A5 n5 c5)) 85)).heap.size) (e := e) (hye.ext (ext_alloc _ _)).all
          have R1 := R1.ext (ext_alloc _ (.cells (cE e (.slice A0 n0 c0)) 85))
          rw [size_alloc] at R2
          go_wp2_with fail
          refine (sameEnts_v R1 R2).mono ?_
          rintro e10 w10 ⟨rfl, he⟩
          rw [esSame_id]
          try clear b3_0 b3_1 b3_2 b3_3 b3_4 b3_z b3_l b8_0 b8_1 b8_2 b8_3 b8_4 b8_z b8_l
          clear R1 R2
          have he := ext_trans (ext_trans (ext_alloc _ _) (ext_alloc _ _)) he
          have hx := ext_trans hx he
          have h := h.ext he
          have b3 := b3.ext he
          have r4 := r4.ext he
          clear he b8 hy5 hye
          obtain ⟨b3_0, b3_1, b3_2, b3_3, b3_4⟩ := b3.c5
          have b3_z := b3.free
          have b3_l := b3.lt
          go_wp2_with fail
          refine (ixDrop_v (p := e.pair) r4 hml HSM.out).mono ?_
          rintro e11 w11 ⟨v11, rfl, own11, he⟩
          try clear b3_0 b3_1 b3_2 b3_3 b3_4 b3_z b3_l
          have hx := ext_trans hx he
          have h := h.ext he
          clear he
          rw [HDR.out] at own11
          obtain ⟨A11, n11, c11, rfl, _, _, _⟩ := own11.form
          go_wp2_with fail
          refine (sameEnts_v (own11.row (T := [85]) (base := 0) (by decide) (Nat.le_refl _)) h).mono ?_
          rintro e12 w12 ⟨rfl, he⟩
          rw [esSame_id]
          go_wp2_with fail
          go_ret
          exact ⟨rfl, ext_trans hx he⟩
end Go.Proofs.Ytnganglmpcbcbaa

