/- Walks: scref1.less, index.Own. -/
import Derived.Test.YtdmnmfnmaccmoaaGreatDoorPr5
namespace Go.Proofs.YtdmnmfnmaccmoaaGreatDoor
open Go Go.RowKit
theorem own_new {α : Type} {E : El α} {w : World} {rb base g : Nat} {v : Value} {xs : List α} (h : OwnRow E w rb base v xs) (hg : w.heap.size ≤ g) : some g ≠ v.ownBlock := by
 obtain ⟨css, _, _, h⟩ := h
 rcases h with ⟨rfl, _⟩ | ⟨g', cap, cur, rfl, _, hh, _⟩
 ·simp [Value.ownBlock]
 ·have := (Array.getElem?_eq_some_iff.1 hh).1
  simp only [Value.ownBlock, ne_eq, Option.some.injEq]
  omega
theorem ent_mem {l : List Ent} {a : Nat} (ha : a < l.length) : l.getD a ⟨rZero, 0⟩ ∈ l := by
 rw [List.getD_eq_getElem?_getD, List.getElem?_eq_getElem ha]
 exact List.getElem_mem ha
theorem Cs_getD {l : List Ent} {a : Nat} (ha : a < l.length) : l.take a ++ [l.getD a ⟨rZero, 0⟩] = l.take (a + 1) := (take_succ_getD _ l a ha).symm
set_option maxRecDepth 100000 in
set_option maxHeartbeats 4000000 in
theorem ixOwn_v {T : List TypeId} {base : Nat} {u : Value} {l : List Ent} {w : World} (h : Row eEnt T w base u l) (hl : l.length ≤ 4096) (hs : ∀ e ∈ l, e.rcd.data.length ≤ 4096) :
  Calls Tryz.prog 27 #[u] w fun e w' => ∃ v', e = .returned v' ∧ OwnRow eEnt w' w.heap.size 0 v' l ∧ Ext w w' := by
 have h := h.all (T' := [])
 obtain ⟨A, n, c, rfl, hc, hcm, HN⟩ := h.form
 have HS := Lib.hid hs
 have hn4 : n ≤ 4096 := by have := HN.out; omega
 clear hs
 unfold maxLen at hcm
 go_enter Tryz.func27, Tryz.ntmps27
 go_wp2_with fail
 go_loopw [3, 8] (fun v3 i wr => ∃ a : Nat, a ≤ n ∧ i = .int .i64 a ∧ OwnRow eEnt wr w.heap.size 0 v3 (l.take a) ∧ Row eEnt [] wr w.heap.size (.slice A n c) l ∧ Ext w wr) (fun _ i _ => n - (intOf i).toNat)
 case atStart => exact ⟨0, by omega, rfl, by rw [List.take_zero]; exact OwnRow.nil _ _ _ _, h, Below.refl _ _⟩
 case round =>
  clear h
  obtain ⟨a, ha, rfl, own, h, hx⟩ := hrel
  by_cases hlt : a < n
  ·have e0 : (0 : Int) ≤ (a : Int) := by omega
   have e1 : (a : Int) < (n : Int) := by omega
   obtain ⟨b, o, u, rfl, hb, c0, c1, c2, c3, c4, hu⟩ := h.ent_at hlt
   have hal : a < l.length := HN.out ▸ hlt
   have hst := Lib.hid (Cs_getD hal)
   have hsm : (l.getD a ⟨rZero, 0⟩).rcd.data.length ≤ 4096 := HS.out _ (ent_mem hal)
   have hlim : (l.take a).length + 1 ≤ lim := by rw [lim_def, List.length_take]; omega
   generalize l.getD a ⟨rZero, 0⟩ = e at c0 c1 c2 c4 hu hst hsm
   obtain ⟨A2, n2, c2', rfl, _, _⟩ := hu.form
   go_upto_region 5 with (fail)
   generalize hwn : World.alloc wr _ = w1
   have he : Ext wr w1 := by rw [← hwn]; exact ext_alloc _ _
   have b5 : Box w1 wr.heap.size 78 #[.int .i64 e.rcd.kind, .int .i64 e.rcd.key, .int .i64 e.rcd.ver, .slice A2 n2 c2', .int .i64 e.pair] := by rw [← hwn]; exact Box.new _ _ _ (by simp)
   clear hwn c0 c1 c2 c3 c4 hb
   have hzr := hx.size
   have hne := own_new own (Nat.le_refl _)
   have hx := ext_trans hx he
   have own := own.ext he
   have h := h.ext he
   have hu := hu.ext he
   clear he
   have hx := hx.drew
   have b5 := b5.drew
   have own := own.ext ((Below.refl _ _).drew)
   have h := h.ext ((Below.refl _ _).drew)
   have hu := hu.ext ((Below.refl _ _).drew)
   refine wp_region_keep w.heap.size [wr.heap.size] 10 [0, 1, 2, 4, 5, 6, 9] false rfl (by kernel_rfl) (by kernel_rfl) ?_
   generalize w1.drew = D at hx b5 own h hu ⊢
   have lD := b5.lt
   apply mixF 0 (by kernel_rfl) (by rfl) (by rfl)
   ·(intro w' hx; obtain ⟨x0, x1, x2, x3, x4⟩ := (b5.xk hx (by simp)).c5; go_simp <;> with_reducible rfl)
   simp only [pA, pB, pC, pD]
   apply mixF 1 (by kernel_rfl) (by rfl) (by rfl)
   ·(intro w' hx; obtain ⟨x0, x1, x2, x3, x4⟩ := (b5.xk hx (by simp)).c5; go_simp <;> with_reducible rfl)
   simp only [pA, pB, pC, pD]
   apply mixF 2 (by kernel_rfl) (by rfl) (by rfl)
   ·(intro w' hx; obtain ⟨x0, x1, x2, x3, x4⟩ := (b5.xk hx (by simp)).c5; go_simp <;> with_reducible rfl)
   simp only [pA, pB, pC, pD]
   apply mixF 4 (by kernel_rfl) (by rfl) (by rfl)
   ·(intro w' hx; obtain ⟨x0, x1, x2, x3, x4⟩ := (b5.xk hx (by simp)).c5; go_simp <;> with_reducible rfl)
   simp only [pA, pB, pC, pD]
   apply mixF 5 (by kernel_rfl) (by rfl) (by rfl)
   ·(intro w' hx; obtain ⟨x0, x1, x2, x3, x4⟩ := (b5.xk hx (by simp)).c5; go_simp <;> with_reducible rfl)
   simp only [pA, pB, pC, pD]
   refine mixS 3 (by kernel_rfl) (by kernel_rfl) (by rfl) (by rfl) (fun K hK => ?_)
   go_wp2_with (go_at_call 52; refine (recOwn_v (r := e.rcd) ⟨_, rfl, hu⟩ hsm).mono ?_; rintro e w3 ⟨v3, rfl, hr3, he⟩)
   refine hK.out _ _ (XK.ext he (by omega) (by simp; omega)) ?_
   clear hK K
   try simp only [pA, pB, pC, pD]
   obtain ⟨u3, rfl, hu3⟩ := hr3
   have hx := ext_trans hx he
   have b5 := b5.ext he
   have own := own.ext he
   have h := h.ext he
   have lD3 := he.size
   clear he hu
   apply mixF 6 (by kernel_rfl) (by rfl) (by rfl)
   ·(intro w' hx; go_simp <;> with_reducible rfl)
   simp only [pA, pB, pC, pD]
   refine mixS 7 (by kernel_rfl) (by kernel_rfl) (by rfl) (by rfl) (fun K hK => ?_)
   go_wp2
   refine hK.out _ _ (XK.ext (ext_alloc _ _) (by omega) (by simp; omega)) ?_
   clear hK K
   try simp only [pA, pB, pC, pD]
   generalize hwn : World.alloc w3 _ = w4
   have he : Ext w3 w4 := by rw [← hwn]; exact ext_alloc _ _
   have hs4 : Sl w4 w4.heap.size 5 (some ⟨w3.heap.size, 0, none⟩) 1 1 [.int .i64 e.rcd.kind, .int .i64 e.rcd.key, .int .i64 e.rcd.ver, u3, .int .i64 e.pair] := by rw [← hwn]; exact Sl.new _ _ _ _ 5 1 rfl (by unfold maxLen; omega) (by simp)
   clear hwn
   have hx := ext_trans hx he
   have b5 := b5.ext he
   have own := own.ext he
   have h := h.ext he
   have hu3 := hu3.ext he
   have lD4 := he.size
   clear he
   refine mixS 8 (by kernel_rfl) (by kernel_rfl) (by rfl) (by rfl) (fun K hK => ?_)
   refine wpo_ent (.tmp 12) (.tmp 19) rfl rfl own rfl hs4 (y := e) ⟨_, rfl, hu3⟩ hlim (by omega) (by omega) ?_
   intro v7 w7 own7 hg7 hb7
   refine hK.out _ _ (XK.grown hg7 hb7 (by simp; exact ⟨by omega, hne⟩)) ?_
   clear hK K
   try simp only [pA, pB, pC, pD]
   have h7 := h.kept (Kept.app own.choose_spec.2 hg7 (by decide) (Nat.le_refl _))
   apply mixF 9 (by kernel_rfl) (by rfl) (by rfl)
   ·(intro w' hx; go_simp <;> with_reducible rfl)
   simp only [pA, pB, pC, pD]
   refine mixEnd (by kernel_rfl) ?_
   go_wp2_with fail
   refine ⟨⟨a + 1, by omega, rfl, ?_, h7, hx.trans hb7⟩, ?_⟩
   ·rw [← hst.out]
    exact own7
   ·simp only [intOf]
    omega
  ·obtain rfl : a = n := by omega
   have hfin : l.take a = l := List.take_of_length_le (by rw [HN.out]; exact Nat.le_refl _)
   rw [hfin] at own
   go_wp2_with fail
   go_ret
   exact ⟨_, rfl, own, hx⟩
end Go.Proofs.YtdmnmfnmaccmoaaGreatDoor
