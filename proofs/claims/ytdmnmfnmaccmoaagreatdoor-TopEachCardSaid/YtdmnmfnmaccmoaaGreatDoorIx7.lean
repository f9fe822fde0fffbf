/- Walks: index.Add, index.Find. -/
import Derived.Test.YtdmnmfnmaccmoaaGreatDoorIx3
import Derived.Test.YtdmnmfnmaccmoaaGreatDoorIx2
namespace Go.Proofs.YtdmnmfnmaccmoaaGreatDoor
open Go Go.RowKit
theorem own_rb {α : Type} {E : El α} {w : World} {rb base g : Nat} {v : Value} {xs : List α} (h : OwnRow E w rb base v xs) (hg : g < rb) : some g ≠ v.ownBlock := by
 obtain ⟨css, _, _, h⟩ := h
 rcases h with ⟨rfl, _⟩ | ⟨g', cap, cur, rfl, hr, _⟩
 ·simp [Value.ownBlock]
 ·simp only [Value.ownBlock, ne_eq, Option.some.injEq]
  omega
set_option maxRecDepth 100000 in
set_option maxHeartbeats 4000000 in
theorem ixAdd_v {T : List TypeId} {base base' : Nat} {u ev : Value} {l : List Ent} {e : Ent} {w : World} (h : Row eEnt T w base u l) (hl : l.length ≤ 4000) (hs : ∀ e ∈ l, e.rcd.data.length ≤ 4096) (hev : EntV w base' ev e) (hse : e.rcd.data.length ≤ 4096) :
  Calls Tryz.prog 44 #[u, ev] w fun e' w' => ∃ v' l', e' = .returned v' ∧ l'.Perm (l ++ [e]) ∧ (l'.Pairwise fun a b => ¬ eLt b a) ∧ OwnRow eEnt w' w.heap.size 0 v' l' ∧ Ext w w' := by
 obtain ⟨A, n, c, rfl, hc, hcm, HN⟩ := h.form
 obtain ⟨A0, n0, c0, rfl, _, hye⟩ := hev.at_
 have HS := Lib.hid hs
 clear hs hev
 go_enter Tryz.func44, Tryz.ntmps44
 go_upto_region 1 with (fail)
 generalize hwn : World.alloc w _ = W
 have hx : Ext w W := by rw [← hwn]; exact ext_alloc _ _
 have b3 : Box W w.heap.size 78 #[.int .i64 e.rcd.kind, .int .i64 e.rcd.key, .int .i64 e.rcd.ver, .slice A0 n0 c0, .int .i64 e.pair] := by rw [← hwn]; exact Box.new _ _ _ rfl
 clear hwn
 have hx := hx.drew
 have b3 := b3.drew
 have h := h.ext hx
 have hye := hye.ext hx
 have lb := b3.lt
 refine wp_region_keep (w.heap.size + 1) [w.heap.size] 11 [0, 2, 3, 5, 6, 7, 10] false rfl (by kernel_rfl) (by kernel_rfl) ?_
 generalize W.drew = D at hx b3 h hye lb ⊢
 apply mixF 0 (by kernel_rfl) (by rfl) (by rfl)
 ·(intro w' hx; obtain ⟨x0, x1, x2, x3, x4⟩ := (b3.xk hx (by simp)).c5; go_simp <;> with_reducible rfl)
 simp only [pA, pB, pC, pD]
 apply mixF 2 (by kernel_rfl) (by rfl) (by rfl)
 ·(intro w' hx; obtain ⟨x0, x1, x2, x3, x4⟩ := (b3.xk hx (by simp)).c5; go_simp <;> with_reducible rfl)
 simp only [pA, pB, pC, pD]
 apply mixF 3 (by kernel_rfl) (by rfl) (by rfl)
 ·(intro w' hx; obtain ⟨x0, x1, x2, x3, x4⟩ := (b3.xk hx (by simp)).c5; go_simp <;> with_reducible rfl)
 simp only [pA, pB, pC, pD]
 apply mixF 5 (by kernel_rfl) (by rfl) (by rfl)
 ·(intro w' hx; obtain ⟨x0, x1, x2, x3, x4⟩ := (b3.xk hx (by simp)).c5; go_simp <;> with_reducible rfl)
 simp only [pA, pB, pC, pD]
 apply mixF 6 (by kernel_rfl) (by rfl) (by rfl)
 ·(intro w' hx; obtain ⟨x0, x1, x2, x3, x4⟩ := (b3.xk hx (by simp)).c5; go_simp <;> with_reducible rfl)
 simp only [pA, pB, pC, pD]
 refine mixS 1 (by kernel_rfl) (by kernel_rfl) (by rfl) (by rfl) (fun K hK => ?_)
 go_wp2_with (go_at_call 27; refine (ixOwn_v h (by omega) HS.out).mono ?_; rintro e w1 ⟨v1, rfl, own, he⟩)
 refine hK.out _ _ (XK.ext he (by omega) (by simp; omega)) ?_
 clear hK K
 try simp only [pA, pB, pC, pD]
 have own := own.more (rb' := w.heap.size + 1) (by omega) (Nat.le_refl _)
 have hz1 := he.size
 have hx := ext_trans hx he
 have b3 := b3.ext he
 have hye := hye.ext he
 clear he h
 refine mixS 4 (by kernel_rfl) (by kernel_rfl) (by rfl) (by rfl) (fun K hK => ?_)
 go_wp2_with (go_at_call 52; refine (recOwn_v (r := e.rcd) ⟨_, rfl, hye⟩ hse).mono ?_; rintro e w3 ⟨v3, rfl, hr3, he⟩)
 refine hK.out _ _ (XK.ext he (by omega) (by simp; omega)) ?_
 clear hK K
 try simp only [pA, pB, pC, pD]
 obtain ⟨u3, rfl, hu3⟩ := hr3
 have hz3 := he.size
 have hx := ext_trans hx he
 have b3 := b3.ext he
 have own := own.ext he
 clear he hye
 apply mixF 7 (by kernel_rfl) (by rfl) (by rfl)
 ·(intro w' hx; go_simp <;> with_reducible rfl)
 simp only [pA, pB, pC, pD]
 refine mixS 8 (by kernel_rfl) (by kernel_rfl) (by rfl) (by rfl) (fun K hK => ?_)
 go_wp2
 refine hK.out _ _ (XK.ext (ext_alloc _ _) (by omega) (by simp; omega)) ?_
 clear hK K
 try simp only [pA, pB, pC, pD]
 generalize hwn : World.alloc w3 _ = w4
 have he : Ext w3 w4 := by rw [← hwn]; exact ext_alloc _ _
 have hs4 : Sl w4 w4.heap.size 5 (some ⟨w3.heap.size, 0, none⟩) 1 1 [.int .i64 e.rcd.kind, .int .i64 e.rcd.key, .int .i64 e.rcd.ver, u3, .int .i64 e.pair] := by rw [← hwn]; exact Sl.new _ _ _ _ 5 1 rfl (by unfold maxLen; omega) (by simp)
 clear hwn
 have hz4 := he.size
 have hx := ext_trans hx he
 have b3 := b3.ext he
 have own := own.ext he
 have hu3 := hu3.ext he
 clear he
 refine mixS 9 (by kernel_rfl) (by kernel_rfl) (by rfl) (by rfl) (fun K hK => ?_)
 refine wpo_ent (.tmp 7) (.tmp 14) rfl rfl own rfl hs4 (y := e) ⟨_, rfl, hu3⟩ (by rw [lim_def]; omega) (by omega) (Nat.zero_le _) ?_
 intro v7 w7 own7 hg7 hb7
 refine hK.out _ _ (XK.grown hg7 hb7 (by simp; exact ⟨by omega, own_rb own (Nat.lt_succ_self _)⟩)) ?_
 clear hK K
 try simp only [pA, pB, pC, pD]
 apply mixF 10 (by kernel_rfl) (by rfl) (by rfl)
 ·(intro w' hx; go_simp <;> with_reducible rfl)
 simp only [pA, pB, pC, pD]
 refine mixEnd (by kernel_rfl) ?_
 have hx := hx.trans (hb7.mono (Nat.le_succ _))
 have hz7 := hx.size
 have hlen : (l ++ [e]).length ≤ 4096 := by rw [List.length_append, List.length_cons, List.length_nil]; omega
 go_wp2_with fail
 refine (sortEnt_v own7 (Nat.zero_le _) hlen).mono ?_
 rintro e3 w8 ⟨rfl, l', hp, hs, own8, hb8⟩
 go_wp2_with fail
 go_ret
 exact ⟨_, l', rfl, hp, hs, own8.more (rb' := w.heap.size) (by omega) (Nat.le_refl _), hx.trans (hb8.mono (Nat.le_succ _))⟩
def FoundV (w : World) (v : Value) (b : Bool) (o : Option Ent) : Prop := b = o.isSome ∧ EntV w 0 v (o.getD ⟨rZero, 0⟩)
theorem find_none_step {p : Ent → Bool} {l : List Ent} {a : Nat} (h : ∀ i, i < a → p (l.getD i ⟨rZero, 0⟩) = false) (h1 : p (l.getD a ⟨rZero, 0⟩) = false) : ∀ i, i < a + 1 → p (l.getD i ⟨rZero, 0⟩) = false := fun i hi => by
 by_cases e : i = a
 ·rw [e]; exact h1
 ·exact h i (by omega)
theorem find_hit {p : Ent → Bool} {l : List Ent} {a : Nat} (ha : a < l.length) (h : ∀ i, i < a → p (l.getD i ⟨rZero, 0⟩) = false) (h1 : p (l.getD a ⟨rZero, 0⟩) = true) : l.find? p = some (l.getD a ⟨rZero, 0⟩) := by
 rw [List.find?_eq_some_iff_append]
 refine ⟨h1, l.take a, l.drop (a + 1), ?_, fun y hy => ?_⟩
 ·rw [← drop_ent ha, List.take_append_drop]
 ·obtain ⟨i, hi, rfl⟩ := List.getElem_of_mem hy
  rw [List.length_take] at hi
  have := h i (by omega)
  rw [List.getD_eq_getElem?_getD, List.getElem?_eq_getElem (by omega)] at this
  simpa using this
theorem find_no {p : Ent → Bool} {l : List Ent} (h : ∀ i, i < l.length → p (l.getD i ⟨rZero, 0⟩) = false) : l.find? p = none := by
 rw [List.find?_eq_none]
 intro x hx
 obtain ⟨i, hi, rfl⟩ := List.getElem_of_mem hx
 have := h i hi
 rw [List.getD_eq_getElem?_getD, List.getElem?_eq_getElem hi] at this
 simpa using this
def pFind (k x : Int) (e : Ent) : Bool := decide (e.rcd.key = k) && decide (e.rcd.ver = x)
set_option maxRecDepth 100000 in
set_option maxHeartbeats 4000000 in
theorem ixFind_v {T : List TypeId} {base : Nat} {u : Value} {l : List Ent} {k x : Int} {w : World} (h : Row eEnt T w base u l) (hs : ∀ e ∈ l, e.rcd.data.length ≤ 4096) :
  Calls Tryz.prog 39 #[u, .int .i64 k, .int .i64 x] w fun e w' => ∃ v b, e = .returned (.tuple #[v, .bool b]) ∧ FoundV w' v b (iFind l k x) ∧ Ext w w' := by
 obtain ⟨A, n, c, rfl, hc, hcm, HN⟩ := h.form
 have HS := Lib.hid hs
 clear hs
 unfold maxLen at hcm
 go_enter Tryz.func39, Tryz.ntmps39
 go_upto_region 2 with (fail)
 generalize hwn : World.alloc w _ = W
 have hx : Ext w W := by rw [← hwn]; exact ext_alloc _ _
 have b6 : Box W w.heap.size 78 #[.int .i64 0, .int .i64 0, .int .i64 0, .slice none 0 0, .int .i64 0] := by rw [← hwn]; exact Box.new _ _ _ rfl
 clear hwn
 obtain ⟨g6, hg6⟩ : ∃ g, g = w.heap.size := ⟨_, rfl⟩
 rw [show Box W w.heap.size 78 #[.int .i64 0, .int .i64 0, .int .i64 0, .slice none 0 0, .int .i64 0] ↔ Box W g6 78 #[.int .i64 0, .int .i64 0, .int .i64 0, .slice none 0 0, .int .i64 0] by rw [hg6]] at b6
 rw [← hg6]
 have l6 : w.heap.size ≤ g6 := by omega
 clear hg6
 go_loopw [12] (fun i wr => ∃ a : Nat, a ≤ n ∧ i = .int .i64 a ∧ Hid (∀ i, i < a → pFind k x (l.getD i ⟨rZero, 0⟩) = false) ∧ Box wr g6 78 #[.int .i64 0, .int .i64 0, .int .i64 0, .slice none 0 0, .int .i64 0] ∧ Ext w wr) (fun i _ => n - (intOf i).toNat)
 case atStart => exact ⟨0, by omega, rfl, fun i hi => (by omega), b6, hx⟩
 case round =>
  clear hx b6
  obtain ⟨a, ha, rfl, HF, b6, hx⟩ := hrel
  by_cases hlt : a < n
  ·have e0 : (0 : Int) ≤ (a : Int) := by omega
   have e1 : (a : Int) < (n : Int) := by omega
   obtain ⟨b, o, u, rfl, hb, hu, hcell⟩ := h.ent_x hlt
   have hal : a < l.length := HN.out ▸ hlt
   have HIT := Lib.hid (find_hit hal HF.out)
   have MISS := Lib.hid (find_none_step HF.out)
   have hsm : (l.getD a ⟨rZero, 0⟩).rcd.data.length ≤ 4096 := HS.out _ (ent_mem hal)
   generalize l.getD a ⟨rZero, 0⟩ = e at hcell hu HIT MISS hsm
   obtain ⟨A2, n2, c2, rfl, _, _⟩ := hu.form
   obtain ⟨c0, c1, c2_, c3, c4⟩ := hcell _ hx
   have hz := hx.size
   have lb6 := b6.lt
   go_upto_region 4 with (fail)
   generalize hwn : World.alloc wr _ = w1
   have he : Ext wr w1 := by rw [← hwn]; exact ext_alloc _ _
   have b9 : Box w1 wr.heap.size 78 #[.int .i64 e.rcd.kind, .int .i64 e.rcd.key, .int .i64 e.rcd.ver, .slice A2 n2 c2, .int .i64 e.pair] := by rw [← hwn]; exact Box.new _ _ _ (by simp)
   clear hwn c0 c1 c2_ c3 c4
   have hx := ext_trans hx he
   have b6 := b6.ext he
   have hu := hu.ext hx
   clear he
   by_cases hk : e.rcd.key = k
   ·have q1 : (e.rcd.key == k) = true := by simpa using hk
    by_cases hv : e.rcd.ver = x
    ·have q2 : (e.rcd.ver == x) = true := by simpa using hv
     have HI := Lib.hid (HIT.out (by unfold pFind; rw [decide_eq_true hk, decide_eq_true hv]; rfl))
     clear HIT MISS hk hv
     obtain ⟨b9_0, b9_1, b9_2, b9_3, b9_4⟩ := b9.c5
     have b9_z := b9.free
     have b9_l := b9.lt
     go_upto_region 5 with (fail)
     try clear b9_0 b9_1 b9_2 b9_3 b9_4 b9_z b9_l
     clear q1 q2
     have hx := hx.drew
     have b6 := b6.drew
     have b9 := b9.drew
     have hu := hu.ext ((Below.refl _ _).drew)
     refine wp_region_ue 8 [7] [0, 1, 3, 4, 5, 7] rfl (by kernel_rfl) (by kernel_rfl) ?_
     generalize w1.drew = D at hx b6 b9 hu ⊢
     apply uF 0 (by kernel_rfl) (by rfl) (by rfl) (by rfl)
     ·(intro w' hx; obtain ⟨x0, x1, x2, x3, x4⟩ := (b9.ext hx).c5; go_simp <;> with_reducible rfl)
     simp only [pA, pB, pC, pD]
     apply uF 1 (by kernel_rfl) (by rfl) (by rfl) (by rfl)
     ·(intro w' hx; obtain ⟨x0, x1, x2, x3, x4⟩ := (b9.ext hx).c5; go_simp <;> with_reducible rfl)
     simp only [pA, pB, pC, pD]
     apply uF 3 (by kernel_rfl) (by rfl) (by rfl) (by rfl)
     ·(intro w' hx; obtain ⟨x0, x1, x2, x3, x4⟩ := (b9.ext hx).c5; go_simp <;> with_reducible rfl)
     simp only [pA, pB, pC, pD]
     apply uF 4 (by kernel_rfl) (by rfl) (by rfl) (by rfl)
     ·(intro w' hx; obtain ⟨x0, x1, x2, x3, x4⟩ := (b9.ext hx).c5; go_simp <;> with_reducible rfl)
     simp only [pA, pB, pC, pD]
     clear b9
     refine uS 2 (by kernel_rfl) (by kernel_rfl) (by rfl) (by rfl) (fun K hK => ?_)
     go_wp2_with (go_at_call 52; refine (recOwn_v (r := e.rcd) ⟨_, rfl, hu⟩ hsm).mono ?_; rintro e w3 ⟨v3, rfl, hr3, he⟩)
     refine hK.out _ _ (he) ?_
     clear hK K
     try simp only [pA, pB, pC, pD]
     obtain ⟨u3, rfl, hu3⟩ := hr3
     obtain ⟨A3, n3, c3, rfl, _, _⟩ := hu3.form
     have hx := ext_trans hx he
     have b6 := b6.ext he
     apply uF 5 (by kernel_rfl) (by rfl) (by rfl) (by rfl)
     ·(intro w' hx; go_simp <;> with_reducible rfl)
     simp only [pA, pB, pC, pD]
     refine uL 6 (by kernel_rfl) (by kernel_rfl) (by kernel_rfl) (by rfl) (by rfl) (fun K hK => ?_)
     have hK' := Lib.hid hK
     clear hK
     have k6 := b6.kd
     obtain ⟨b6_0, b6_1, b6_2, b6_3, b6_4⟩ := b6.c5
     have b6_z := b6.free
     have b6_l := b6.lt
     go_wp2
     refine hK'.out _ _ ?_
     clear hK' K
     apply uU 7 (by kernel_rfl) (by rfl) (by rfl)
     ·(intro w'; go_simp <;> with_reducible rfl)
     simp only [pA, pB, pC, pD]
     refine uEnd (by kernel_rfl) ?_
     go_wp2_with fail
     ((try simp only [Exit.inBlock, Exit.then]); refine bodyPost_ret (v := ?_) ?resultOf rfl ?_; case resultOf => (rw [results_cell_tmp rfl]; go_simp; rfl))
     refine ⟨_, _, rfl, ⟨by rw [show iFind l k x = some e from HI.out]; rfl, by rw [show iFind l k x = some e from HI.out]; exact ⟨_, rfl, hu3.kept (T := []) (by (repeat (with_reducible (first | assumption | exact Kept.refl _ _ _ | (apply Kept.setK; rotate_left; (repeat (first | assumption | apply Kd.set | apply Kd.alloc | apply Kd.drew)); decide; omega) | refine Kept.allocK ?_ _ | refine Kept.drewK ?_))))⟩⟩, by (repeat (with_reducible (first | assumption | exact Below.refl _ _ | refine Below.setCell ?_ (by simp <;> omega) _ | refine Below.alloc ?_ (by simp <;> omega) _ | refine Below.drew ?_ | refine below_drewN ?_ _)))⟩
    ·have q2 : (e.rcd.ver == x) = false := by simpa using hv
     have HM := Lib.hid (MISS.out (by unfold pFind; rw [decide_eq_false hv, Bool.and_false]))
     clear HIT MISS hk hv
     obtain ⟨b9_0, b9_1, b9_2, b9_3, b9_4⟩ := b9.c5
     have b9_z := b9.free
     have b9_l := b9.lt
     go_wp2_with fail
     refine ⟨⟨a + 1, by omega, rfl, HM.out, b6, hx⟩, ?_⟩
     simp only [intOf]
     omega
   ·have q1 : (e.rcd.key == k) = false := by simpa using hk
    have HM := Lib.hid (MISS.out (by unfold pFind; rw [decide_eq_false hk, Bool.false_and]))
    clear HIT MISS hk
    obtain ⟨b9_0, b9_1, b9_2, b9_3, b9_4⟩ := b9.c5
    have b9_z := b9.free
    have b9_l := b9.lt
    go_wp2_with fail
    refine ⟨⟨a + 1, by omega, rfl, HM.out, b6, hx⟩, ?_⟩
    simp only [intOf]
    omega
  ·have HF2 := Lib.hid (find_no (p := pFind k x) (l := l) (fun i hi => HF.out i (by have := HN.out; omega)))
   have k6 := b6.kd
   obtain ⟨b6_0, b6_1, b6_2, b6_3, b6_4⟩ := b6.c5
   have b6_z := b6.free
   have b6_l := b6.lt
   go_wp2_with fail
   ((try simp only [Exit.inBlock, Exit.then]); refine bodyPost_ret (v := ?_) ?resultOf rfl ?_; case resultOf => (rw [results_cell_tmp rfl]; go_simp; rfl))
   refine ⟨_, _, rfl, ⟨by rw [show iFind l k x = none from HF2.out]; rfl, by rw [show iFind l k x = none from HF2.out]; exact ⟨_, rfl, ByT.nil _ _⟩⟩, by (repeat (with_reducible (first | assumption | exact Below.refl _ _ | refine Below.setCell ?_ (by simp <;> omega) _ | refine Below.alloc ?_ (by simp <;> omega) _ | refine Below.drew ?_ | refine below_drewN ?_ _)))⟩
end Go.Proofs.YtdmnmfnmaccmoaaGreatDoor
