/- Walks: slices.DeleteFunc of entries; index.Drop. -/
import Derived.Test.YthgdbblpbekieaaIx9
namespace Go.Proofs.Ythgdbblpbekieaa
open Go Go.RowKit

theorem kept_cells5 {g base : Nat} {w0 : World} (hb : base ≤ g) (vs : List Value) : ∀ (o : Nat) {w : World}, Kd w g 74 → Kept [] base w0 w → Kept [] base w0 (w.setCells g o vs) := by
 induction vs with
 | nil => intro o w _ h; exact h
 | cons v vs ih =>
  intro o w hk h
  exact ih (o + 1) (by (repeat (with_reducible (first | assumption | apply Kd.set | apply Kd.alloc | apply Kd.drew)))) (h.setK hk (by decide) hb o v)
theorem take_hit {l : List Ent} {p : Ent → Bool} {j : Nat} (hj : j < l.length) (h : p (l.getD j ⟨rZero, 0⟩) = true) : (l.take (j + 1)).filter (fun e => !p e) = (l.take j).filter fun e => !p e := by
 rw [← Cs_getD hj, List.filter_append]
 simp only [List.filter_cons, List.filter_nil, h, Bool.not_true, Bool.false_eq_true, if_false, List.append_nil]
theorem take_miss {l : List Ent} {p : Ent → Bool} {j : Nat} (hj : j < l.length) (h : p (l.getD j ⟨rZero, 0⟩) = false) : (l.take (j + 1)).filter (fun e => !p e) = (l.take j).filter (fun e => !p e) ++ [l.getD j ⟨rZero, 0⟩] := by
 rw [← Cs_getD hj, List.filter_append]
 simp only [List.filter_cons, List.filter_nil, h, Bool.not_false, if_true]
theorem drop_next {l m : List Ent} {j : Nat} (h : m.drop j = l.drop j) : m.drop (j + 1) = l.drop (j + 1) := by
 have := congrArg (List.drop 1) h
 simpa [List.drop_drop] using this
theorem drop_getD {l m : List Ent} {j : Nat} (h : m.drop j = l.drop j) : m.getD j ⟨rZero, 0⟩ = l.getD j ⟨rZero, 0⟩ := by
 have := congrArg (fun x => x[0]?) h
 simp only [List.getElem?_drop, Nat.add_zero] at this
 rw [List.getD_eq_getElem?_getD, List.getD_eq_getElem?_getD, this]
theorem set_take {m : List Ent} {i : Nat} {x : Ent} (hi : i < m.length) : (m.set i x).take (i + 1) = m.take i ++ [x] := by
 rw [List.take_set, List.take_succ_eq_append_getElem hi, List.set_append_right _ _ (by rw [List.length_take]; omega), List.length_take, show i - min i m.length = 0 by omega]
 rfl
theorem set_drop {m : List Ent} {i j : Nat} {x : Ent} (hij : i < j) : (m.set i x).drop j = m.drop j := by
 rw [List.drop_set, if_pos hij]
theorem getD_set_ent {m : List Ent} {i k : Nat} {x : Ent} (hi : i < m.length) : (m.set i x).getD k ⟨rZero, 0⟩ = if i = k then x else m.getD k ⟨rZero, 0⟩ := by
 rw [List.getD_eq_getElem?_getD, List.getElem?_set]
 by_cases h : i = k
 ·subst h; simp [hi]
 ·rw [if_neg h, if_neg h, List.getD_eq_getElem?_getD]

set_option maxRecDepth 100000 in
set_option maxHeartbeats 4000000 in
theorem entDelete_v {w : World} {rb base n c : Nat} {A : Option Addr} {l : List Ent} {g' : Nat} {lb : Array Value} {p : Ent → Bool} (eg : ∀ args w, (callFunc g' args).run Try.prog w = .ok (.enter g' args) w)
  (h : OwnRow eEnt w rb base (.slice A n c) l) (hb : base ≤ rb) (hrb : rb ≤ w.heap.size)
  (hp : ∀ (W : World) (x : Ent) (A : Option Addr) (n c : Nat), Below rb w W → Calls Try.prog g' (#[.agg #[.int .i64 x.rcd.kind, .int .i64 x.rcd.key, .int .i64 x.rcd.ver, .slice A n c, .int .i64 x.pair]] ++ lb) W fun e w' => e = .returned (.bool (p x)) ∧ Ext W w') :
  Calls Try.prog 112 #[.slice A n c, .func (.func g') #[] lb] w fun e w' => ∃ v, e = .returned v ∧ OwnRow eEnt w' rb base v (l.filter fun e => !p e) ∧ Below rb w w' := by
 have HP := Lib.hid hp
 have hask : AsksE w g' lb l p := fun W r A n c hW _ _ => hp W r A n c (hW.mono hrb)
 have HA := Lib.hid hask
 clear hp hask
 go_enter Try.func112, Try.ntmps112
 go_wp2_with fail
 refine (entIndex_v eg (h.row (T := [74]) (by decide) (Nat.le_refl _)) HA.out).mono ?_
 rintro e1 w1 ⟨z, rfl, hz, he⟩
 have h := h.ext he
 have hx := he.mono hrb
 have hz1 := he.size
 clear he HA
 by_cases hidx : l.findIdx p < l.length
 ·obtain ⟨i0, hi0⟩ : ∃ i0, l.findIdx p = i0 := ⟨_, rfl⟩
  have hzi : z = (i0 : Int) := by rw [hz.out]; unfold idxEnt; rw [if_pos hidx, hi0]
  subst hzi
  rw [hi0] at hidx
  have hnl : n = l.length := by
   obtain ⟨A', c', e⟩ := h.shape
   injection e
  obtain ⟨g, cur, rfl, hg, bg, hs, hnc, hcm, hnl2, hcells⟩ := h.open5 (by omega)
  clear hnl2
  have HN := Lib.hid hnl
  have p1 : p (l.getD i0 ⟨rZero, 0⟩) = true := by
   have hlt : l.findIdx p < l.length := by omega
   have := List.findIdx_getElem (w := hlt)
   rw [List.getD_eq_getElem?_getD, List.getElem?_eq_getElem (by omega)]
   simpa [hi0] using this
  have p0 : (l.take i0).filter (fun e => !p e) = l.take i0 := by
   rw [List.filter_eq_self]
   intro x hx
   obtain ⟨k, hk, rfl⟩ := List.getElem_of_mem hx
   rw [List.length_take] at hk
   have := List.not_of_lt_findIdx (p := p) (xs := l) (i := k) (by omega)
   simpa using this
  have HT0 := Lib.hid ((take_hit (p := p) hidx p1).trans p0)
  have q0 : ((i0 : Int) == -1) = false := by rw [beq_eq_false_iff_ne]; omega
  have hin : i0 < n := by omega
  unfold maxLen at hcm
  clear hi0 p0 p1 h hz hnl
  go_wp2_with fail
  clear q0
  go_loopw [5, 6] (fun vi vj wr => ∃ i j : Nat, i < j ∧ j ≤ n ∧ vi = .int .i64 i ∧ vj = .int .i64 j ∧ ∃ (cur : Array Value) (m : List Ent), Box wr g 74 cur ∧ cur.size = c * 5 ∧ Hid (∀ k, k < n → CellsAt wr base cur k (m.getD k ⟨rZero, 0⟩)) ∧ Hid (m.length = n) ∧ Hid (m.take i = (l.take j).filter fun e => !p e) ∧ Hid (m.drop j = l.drop j) ∧ Below rb w wr) (fun _ vj _ => n - (intOf vj).toNat)
  case atStart => exact ⟨i0, i0 + 1, by omega, by omega, rfl, by simp, cur, l, bg, hs, hcells, HN.out.symm, HT0.out.symm, rfl, hx⟩
  case round =>
   clear bg hs hcells hx
   obtain ⟨i, j, hij, hjn, rfl, rfl, cur, m, bg, hs, HC, HM, HT, HD, hx⟩ := hrel
   have hz := hx.size
   have lg := bg.lt
   have ci0 : (0 : Int) ≤ (i : Int) := by omega
   have ci1 : (i : Int) < (n : Int) := by omega
   by_cases hlt : j < n
   ·have e0 : (0 : Int) ≤ (j : Int) := by omega
    have e1 : (j : Int) < (n : Int) := by omega
    have hjl : j < l.length := by have := HN.out; omega
    have hmx := drop_getD HD.out
    obtain ⟨u, c0, c1, c2, c3, c4, hu⟩ := HC.out j hlt
    have STEPT := Lib.hid (fun h => take_hit (p := p) hjl h)
    have STEPF := Lib.hid (fun h => take_miss (p := p) hjl h)
    have HDN := Lib.hid (drop_next HD.out)
    rw [hmx] at c0 c1 c2 c4 hu
    generalize l.getD j ⟨rZero, 0⟩ = x at c0 c1 c2 c4 hu STEPT STEPF
    obtain ⟨A2, n2, c2', rfl, _, _⟩ := hu.form
    have d0 := bg.cell _ c0
    have d1 := bg.cell _ c1
    have d2 := bg.cell _ c2
    have d3 := bg.cell _ c3
    have d4 := bg.cell _ c4
    clear c0 c1 c2 c3 c4 hmx
    go_upto_region 8 with (fail)
    generalize hwn : World.alloc wr _ = w2
    have he : Ext wr w2 := by rw [← hwn]; exact ext_alloc _ _
    have b7 : Box w2 wr.heap.size 74 #[.int .i64 x.rcd.kind, .int .i64 x.rcd.key, .int .i64 x.rcd.ver, .slice A2 n2 c2', .int .i64 x.pair] := by rw [← hwn]; exact Box.new _ _ _ (by simp)
    clear hwn d0 d1 d2 d3 d4
    have hx := hx.trans (he.mono (by omega))
    have bg := bg.ext he
    have hu := hu.ext he
    have HC := Lib.hid (fun k hk => (HC.out k hk).kept (Kept.ext he) : ∀ k, k < n → CellsAt w2 base cur k (m.getD k ⟨rZero, 0⟩))
    clear he
    obtain ⟨b7_0, b7_1, b7_2, b7_3, b7_4⟩ := b7.c5
    have b7_z := b7.free
    have b7_l := b7.lt
    go_wp2_with fail
    refine (HP.out _ x A2 n2 c2' hx).mono ?_
    rintro e3 w3 ⟨rfl, he⟩
    have hx := hx.trans (he.mono (by have := b7.lt; omega))
    have bg := bg.ext he
    have hu := hu.ext he
    have b7 := b7.ext he
    have HC := Lib.hid (fun k hk => (HC.out k hk).kept (Kept.ext he) : ∀ k, k < n → CellsAt w3 base cur k (m.getD k ⟨rZero, 0⟩))
    try clear b7_0 b7_1 b7_2 b7_3 b7_4 b7_z b7_l
    clear he
    cases hq : p x with
    | true =>
     have hst := STEPT.out hq
     have HST := Lib.hid hst
     clear hst hq STEPT STEPF
     go_wp2_with fail
     refine ⟨⟨i, j + 1, by omega, by omega, rfl, rfl, cur, m, bg, hs, HC, HM, by rw [Hid, HST.out]; exact HT.out, HDN, hx⟩, ?_⟩
     simp only [intOf]
     omega
    | false =>
     have hst := STEPF.out hq
     have HST := Lib.hid hst
     clear hst hq STEPT STEPF
     obtain ⟨v, c0, c1, c2, c3, c4, _⟩ := HC.out i (by omega)
     have d0 := bg.cell _ c0
     have d1 := bg.cell _ c1
     have d2 := bg.cell _ c2
     have d3 := bg.cell _ c3
     have d4 := bg.cell _ c4
     have df := bg.free
     have dl := bg.lt
     have kg := bg.kd
     clear c0 c1 c2 c3 c4
     obtain ⟨b7_0, b7_1, b7_2, b7_3, b7_4⟩ := b7.c5
     have b7_z := b7.free
     have b7_l := b7.lt
     go_wp2_with fail
     have hK : Kept [] base w3 (((((w3.setCell ⟨g, i * 5, none⟩ (.int .i64 x.rcd.kind)).setCell ⟨g, i * 5 + 1, none⟩ (.int .i64 x.rcd.key)).setCell ⟨g, i * 5 + 2, none⟩ (.int .i64 x.rcd.ver)).setCell ⟨g, i * 5 + 3, none⟩ (.slice A2 n2 c2')).setCell ⟨g, i * 5 + 4, none⟩ (.int .i64 x.pair)) :=
      (((((Kept.refl _ _ _).setK kg (by decide) (by omega) _ _).setK (by (repeat (with_reducible (first | assumption | apply Kd.set | apply Kd.alloc | apply Kd.drew)))) (by decide) (by omega) _ _).setK (by (repeat (with_reducible (first | assumption | apply Kd.set | apply Kd.alloc | apply Kd.drew)))) (by decide) (by omega) _ _).setK (by (repeat (with_reducible (first | assumption | apply Kd.set | apply Kd.alloc | apply Kd.drew)))) (by decide) (by omega) _ _).setK (by (repeat (with_reducible (first | assumption | apply Kd.set | apply Kd.alloc | apply Kd.drew)))) (by decide) (by omega) _ _
     refine ⟨⟨i + 1, j + 1, by omega, by omega, rfl, rfl, put5 cur i (.int .i64 x.rcd.kind) (.int .i64 x.rcd.key) (.int .i64 x.rcd.ver) (.slice A2 n2 c2') (.int .i64 x.pair), m.set i x, ?_, by rw [put5_size]; exact hs, ?_, by rw [Hid, List.length_set]; exact HM.out, ?_, ?_, ?_⟩, ?_⟩
     ·exact ((((bg.set _ _).set _ _).set _ _).set _ _).set _ _
     ·intro k hk
      rw [getD_set_ent (by rw [HM.out]; omega)]
      by_cases hki : i = k
      ·rw [if_pos hki, ← hki]
       exact CellsAt.put_same (hu.kept hK) (by rw [hs]; omega)
      ·rw [if_neg hki]
       exact ((HC.out k hk).kept hK).put_other hki
     ·show _ = _
      rw [set_take (by rw [HM.out]; omega), HT.out, HST.out]
     ·show _ = _
      rw [set_drop (by omega)]
      exact HDN.out
     ·(repeat (with_reducible (first | assumption | exact Below.refl _ _ | refine Below.setCell ?_ (by simp <;> omega) _ | refine Below.alloc ?_ (by simp <;> omega) _ | refine Below.drew ?_ | refine below_drewN ?_ _)))
     ·simp only [intOf]
      omega
   ·obtain rfl : j = n := by omega
    have hfin : l.take j = l := List.take_of_length_le (by rw [HN.out]; exact Nat.le_refl _)
    have HT2 := HT.out
    rw [hfin] at HT2
    have HR := Lib.hid HT2
    have hcl : ∀ ty, (Builtin.clear_ #[72] ty #[.slice (some ⟨g, i * 5, none⟩) (j - i) (c - i)]).run Try.prog wr = .ok (.tuple #[]) (wr.setCells g (i * 5) (zEnt (j - i))) := fun ty =>
     run_clear_ent wr ty g (i * 5) (j - i) _ (by omega) (fun k hk => by
      have : i * 5 + k < cur.size := by rw [hs]; omega
      rw [bg.cell _ (Array.getElem?_eq_getElem this)]
      rfl) (fun k _ => bg.free _)
    have r2 : ¬ (c = i) := by omega
    have r3 : (j : Int) ≤ (c : Int) := by omega
    have r4 : (i : Int) ≤ (j : Int) := by omega
    have r5 : (i : Int) ≤ (c : Int) := by omega
    have r6 : i ≤ j := by omega
    have r7 : i ≤ c := by omega
    clear hfin HT2
    have hKc := kept_cells5 (Nat.le_trans hb hg) (zEnt (j - i)) (i * 5) bg.kd (Kept.refl [] base wr)
    have hbc := box_setCells (zEnt (j - i)) (i * 5) bg
    have hxc := below_cells (zEnt (j - i)) (i * 5) hg hx
    have HF := Lib.hid (OwnRow.shut5 (n := i) (c := c) (xs := m.take i) hg hbc (by rw [putAt_size]; exact hs) (by omega) (by unfold maxLen; exact hcm) (by rw [List.length_take, HM.out]; omega) (fun k hk => by
     have h1 := (HC.out k (by omega)).kept hKc
     have e1 : (m.take i).getD k ⟨rZero, 0⟩ = m.getD k ⟨rZero, 0⟩ := by
      rw [List.getD_eq_getElem?_getD, List.getElem?_take, if_pos hk, List.getD_eq_getElem?_getD]
     rw [e1]
     exact putAt_cells h1 (by omega) (by rw [zEnt_len, hs]; omega)))
    have HX := Lib.hid hxc
    clear hKc hbc hxc bg HC
    go_wp2_with fail
    go_ret
    exact ⟨_, rfl, by rw [← HR.out]; exact HF.out, HX.out⟩
 ·have hzi : z = -1 := by rw [hz.out]; unfold idxEnt; rw [if_neg hidx]
  subst hzi
  have hfe : l.filter (fun e => !p e) = l := by
   rw [List.filter_eq_self]
   intro x hx
   cases hpx : p x with
   | false => rfl
   | true => exact absurd (List.findIdx_lt_length.2 ⟨x, hx, hpx⟩) hidx
  have HFE := Lib.hid hfe
  clear hfe hz
  go_wp2_with fail
  go_ret
  exact ⟨_, rfl, by rw [HFE.out]; exact h, hx⟩

set_option maxRecDepth 100000 in
set_option maxHeartbeats 4000000 in
theorem ixDrop_v {T : List TypeId} {base : Nat} {u : Value} {l : List Ent} {p : Int} {w : World} (h : Row eEnt T w base u l) (hl : l.length ≤ 4096) (hs : ∀ e ∈ l, e.rcd.data.length ≤ 4096) :
  Calls Try.prog 74 #[u, .int .i64 p] w fun e w' => ∃ v', e = .returned v' ∧ OwnRow eEnt w' w.heap.size 0 v' (iDrop l p) ∧ Ext w w' := by
 obtain ⟨A, n, c, rfl, hc, hcm, HN⟩ := h.form
 have HS := Lib.hid hs
 have eg := enters_of Try.func113 (by kernel_rfl) rfl
 clear hs
 go_enter Try.func74, Try.ntmps74
 go_upto_region 1 with (fail)
 generalize hwn : World.alloc w _ = W
 have hx : Ext w W := by rw [← hwn]; exact ext_alloc _ _
 have b3 : Box W w.heap.size 3 #[.int .i64 p] := by rw [← hwn]; exact Box.new _ _ _ rfl
 clear hwn
 have lb := b3.lt
 go_wp2_with fail
 refine (ixOwn_v (h.ext hx) hl HS.out).mono ?_
 rintro e1 w1 ⟨v1, rfl, own, he⟩
 have hW := he.size
 have hx := ext_trans hx he
 have b3 := b3.ext he
 clear he
 obtain ⟨A1, n1, c1, rfl, _, _, _⟩ := own.form
 have hz := hx.size
 go_wp2_with fail
 refine (entDelete_v (p := atPair p) eg own (Nat.zero_le _) hW (fun V x A n c hV => ?_)).mono ?_
 ·show Calls _ _ #[.agg #[.int .i64 x.rcd.kind, .int .i64 x.rcd.key, .int .i64 x.rcd.ver, .slice A n c, .int .i64 x.pair], .pointer (some ⟨w.heap.size, 0, none⟩)] V _
  exact atPair_w x A n c V (.inr rfl) (b3.below hV lb)
 ·rintro e2 w2 ⟨v2, rfl, own2, hb2⟩
  go_wp2_with fail
  go_ret
  exact ⟨_, rfl, own2.more (rb' := w.heap.size) (by omega) (Nat.le_refl _), hx.trans (hb2.mono (by omega))⟩
end Go.Proofs.Ythgdbblpbekieaa

