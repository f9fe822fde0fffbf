/- Walks: cmp.Compare, cmp.Or, index.order; slices.SortFunc of entries. -/
import Derived.Test.YtpidjkadpnjahaaIx0
import Derived.Test.YtpidjkadpnjahaaPr5
import Derived.Shelf.SlGeneric
import Derived.Shelf.Lay
import Derived.Ground.SlsfProg
import Derived.Shelf.SlSortCmp.NoneTotal
namespace Go.Proofs
open Go.Shelf
def Try.sortEnt_ren : Go.Shelf.Ren := ⟨fun | 6 => 109 | 15 => 126 | 14 => 125 | 28 => 142 | 29 => 143 | 20 => 134 | 21 => 135 | 22 => 136 | 23 => 137 | 24 => 138 | 25 => 139 | 26 => 140 | 27 => 141 | 46 => 146 | 47 => 147 | 48 => 148 | 49 => 149 | 50 => 150 | 57 => 151 | n => n, fun | 22 => 72 | 24 => 74 | 25 => 132 | 3 => 3 | 39 => 112 | 0 => 0 | 53 => 167 | 55 => 118 | 4 => 4 | 46 => 160 | 45 => 159 | 50 => 164 | 5 => 5 | 9 => 9 | 66 => 170 | 70 => 174 | 76 => 176 | 77 => 177 | n => n, fun | n => n⟩
theorem Try.sortEnt : Go.Proofs.SlLaysF0.n6 Try.prog Try.sortEnt_ren := {
  mixed := by kernel_rfl
  f6 := ⟨Try.f109.name, by decide, Try.func109.trans (congrArg some (by kernel_rfl))⟩
  f14 := ⟨Try.f125.name, by decide, Try.func125.trans (congrArg some (by kernel_rfl))⟩
  f15 := Try.func126.trans (congrArg some (by kernel_rfl))
  f20 := ⟨Try.f134.name, by decide, Try.func134.trans (congrArg some (by kernel_rfl))⟩
  f21 := ⟨Try.f135.name, by decide, Try.func135.trans (congrArg some (by kernel_rfl))⟩
  f22 := ⟨Try.f136.name, by decide, Try.func136.trans (congrArg some (by kernel_rfl))⟩
  f23 := ⟨Try.f137.name, by decide, Try.func137.trans (congrArg some (by kernel_rfl))⟩
  f24 := ⟨Try.f138.name, by decide, Try.func138.trans (congrArg some (by kernel_rfl))⟩
  f25 := ⟨Try.f139.name, by decide, Try.func139.trans (congrArg some (by kernel_rfl))⟩
  f26 := ⟨Try.f140.name, by decide, Try.func140.trans (congrArg some (by kernel_rfl))⟩
  f27 := ⟨Try.f141.name, by decide, Try.func141.trans (congrArg some (by kernel_rfl))⟩
  f28 := Try.func142.trans (congrArg some (by kernel_rfl))
  f29 := Try.func143.trans (congrArg some (by kernel_rfl))
  f46 := ⟨Try.f146.name, by decide, Try.func146.trans (congrArg some (by kernel_rfl))⟩
  f47 := Try.func147.trans (congrArg some (by kernel_rfl))
  f48 := Try.func148.trans (congrArg some (by kernel_rfl))
  f49 := ⟨Try.f149.name, by decide, Try.func149.trans (congrArg some (by kernel_rfl))⟩
  f50 := ⟨Try.f150.name, by decide, Try.func150.trans (congrArg some (by kernel_rfl))⟩
  f57 := ⟨Try.f151.name, by decide, Try.func151.trans (congrArg some (by kernel_rfl))⟩
  t0 := Try.underlying0
  a0 := Try.isAgg0
  z0 := Try.sizeOf0
  v0 := Try.zeroValue0
  t3 := Try.underlying3
  a3 := Try.isAgg3
  z3 := Try.sizeOf3
  v3 := Try.zeroValue3
  t4 := Try.underlying4
  a4 := Try.isAgg4
  z4 := Try.sizeOf4
  v4 := Try.zeroValue4
  t5 := Try.underlying5
  a5 := Try.isAgg5
  z5 := Try.sizeOf5
  v5 := Try.zeroValue5
  t9 := Try.underlying9
  a9 := Try.isAgg9
  z9 := Try.sizeOf9
  v9 := Try.zeroValue9
  t22 := Try.underlying72
  a22 := Try.isAgg72
  z22 := Try.sizeOf72
  v22 := Try.zeroValue72
  t25 := Try.underlying132
  a25 := Try.isAgg132
  z25 := Try.sizeOf132
  v25 := Try.zeroValue132
  t39 := Try.underlying112
  a39 := Try.isAgg112
  z39 := Try.sizeOf112
  v39 := Try.zeroValue112
  t45 := Try.underlying159
  a45 := Try.isAgg159
  z45 := Try.sizeOf159
  v45 := Try.zeroValue159
  t46 := Try.underlying160
  a46 := Try.isAgg160
  z46 := Try.sizeOf160
  v46 := Try.zeroValue160
  t50 := Try.underlying164
  a50 := Try.isAgg164
  z50 := Try.sizeOf164
  v50 := Try.zeroValue164
  t53 := Try.underlying167
  a53 := Try.isAgg167
  z53 := Try.sizeOf167
  v53 := Try.zeroValue167
  t55 := Try.underlying118
  a55 := Try.isAgg118
  z55 := Try.sizeOf118
  v55 := Try.zeroValue118
  t66 := Try.underlying170
  a66 := Try.isAgg170
  z66 := Try.sizeOf170
  v66 := Try.zeroValue170
  t70 := Try.underlying174
  a70 := Try.isAgg174
  z70 := Try.sizeOf174
  v70 := Try.zeroValue174
  t76 := Try.underlying176
  a76 := Try.isAgg176
  z76 := Try.sizeOf176
  v76 := Try.zeroValue176
  t77 := Try.underlying177
  a77 := Try.isAgg177
  z77 := Try.sizeOf177
  v77 := Try.zeroValue177 }
end Go.Proofs
namespace Go.Proofs.Ytpidjkadpnjahaa
open Go Go.RowKit Go.Sort
theorem nan_w (x : Int) (w : World) : Calls Try.prog 144 #[.int .i64 x] w fun e w' => e = .returned (.bool false) ∧ w = w' := by
 go_enter Try.func144, Try.ntmps144
 have q : (x != x) = false := by simp
 go_wp2_with fail
 go_ret
 exact ⟨rfl, rfl⟩
theorem compare_w (x y : Int) (w : World) : Calls Try.prog 128 #[.int .i64 x, .int .i64 y] w fun e w' => e = .returned (.int .i64 (Lib.compareInt x y)) ∧ w = w' := by
 have hn := fun x w => nan_w x w
 go_enter Try.func128, Try.ntmps128
 by_cases h1 : x < y
 ·have q1 : decide (x < y) = true := by simpa using h1
  go_wp2_with (go_at_call 144; refine (hn _ _).mono ?_; rintro e w' ⟨rfl, rfl⟩)
  go_ret
  exact ⟨by unfold Lib.compareInt; rw [if_pos h1]; rfl, rfl⟩
 ·have q1 : decide (x < y) = false := by simpa using h1
  by_cases h2 : y < x
  ·have q2 : decide (y < x) = true := by simpa using h2
   go_wp2_with (go_at_call 144; refine (hn _ _).mono ?_; rintro e w' ⟨rfl, rfl⟩)
   go_ret
   exact ⟨by unfold Lib.compareInt; rw [if_neg (by omega), if_pos (by omega)]; rfl, rfl⟩
  ·have q2 : decide (y < x) = false := by simpa using h2
   go_wp2_with (go_at_call 144; refine (hn _ _).mono ?_; rintro e w' ⟨rfl, rfl⟩)
   go_ret
   exact ⟨by unfold Lib.compareInt; rw [if_neg (by omega), if_neg (by omega)]; rfl, rfl⟩
theorem or_w {a b c : Int} {g : Nat} {w : World} (hb : Box w g 3 #[.int .i64 a, .int .i64 b, .int .i64 c]) :
  Calls Try.prog 127 #[.slice (some ⟨g, 0, none⟩) 3 3] w fun e w' => e = .returned (.int .i64 (or3 a b c)) ∧ w = w' := by
 obtain ⟨c0, c1, c2⟩ := hb.c3
 go_enter Try.func127, Try.ntmps127
 go_wp2_with fail
 refine wp_loop_rounds 4 ?_
 by_cases h1 : a = 0
 ·subst h1
  by_cases h2 : b = 0
  ·subst h2
   by_cases h3 : c = 0
   ·subst h3
    rw [rounds_succ]
    go_wp2_with fail
    rw [rounds_succ]
    go_wp2_with fail
    rw [rounds_succ]
    go_wp2_with fail
    rw [rounds_succ]
    go_wp2_with fail
    go_ret
    exact ⟨rfl, rfl⟩
   ·have q : (c != 0) = true := by simpa using h3
    rw [rounds_succ]
    go_wp2_with fail
    rw [rounds_succ]
    go_wp2_with fail
    rw [rounds_succ]
    go_wp2_with fail
    go_ret
    exact ⟨by unfold or3; rfl, rfl⟩
  ·have q : (b != 0) = true := by simpa using h2
   rw [rounds_succ]
   go_wp2_with fail
   rw [rounds_succ]
   go_wp2_with fail
   go_ret
   exact ⟨by unfold or3; rw [if_neg (by simp), if_pos h2]; rfl, rfl⟩
 ·have q : (a != 0) = true := by simpa using h1
  rw [rounds_succ]
  go_wp2_with fail
  go_ret
  exact ⟨by unfold or3; rw [if_pos h1]; rfl, rfl⟩
def Gr (w w' : World) : Prop := ∃ q os, w' = grow (w.drewN q) os
theorem Gr.refl (w : World) : Gr w w := ⟨0, #[], by rw [grow_empty]; rfl⟩
theorem Gr.trans {a b c : World} (h : Gr a b) (k : Gr b c) : Gr a c := by
 obtain ⟨q, os, rfl⟩ := h
 obtain ⟨q', os', rfl⟩ := k
 exact ⟨q + q', os ++ os', by
  rw [show (grow (a.drewN q) os).drewN q' = grow ((a.drewN q).drewN q') os from rfl, grow_grow]
  show grow { a with drawn := a.drawn + q + q' } _ = grow { a with drawn := a.drawn + (q + q') } _
  rw [Nat.add_assoc]⟩
theorem Gr.alloc (w : World) (o : Obj) : Gr w (w.alloc o) := ⟨0, #[o], by rw [alloc_eq_grow]; rfl⟩
theorem Gr.drew (w : World) : Gr w w.drew := ⟨1, #[], by rw [grow_empty]; rfl⟩
theorem Gr.ext {a b : World} (h : Gr a b) : Ext a b := by
 obtain ⟨q, os, rfl⟩ := h
 exact ⟨rfl, rfl, rfl, by rw [size_grow]; exact Nat.le_add_right _ _, fun k hk => heap_grow_old _ _ hk⟩
set_option maxRecDepth 100000 in
set_option maxHeartbeats 4000000 in
theorem order_w (x y : Cell5) (w : World) : Calls Try.prog 110 #[.agg (enc5 x).toArray, .agg (enc5 y).toArray] w fun e w' => e = .returned (.int .i64 (cf5 x y)) ∧ Gr w w' := by
 obtain ⟨⟨A, n, c⟩, ⟨⟨xk, xy, xv, xd⟩, xp⟩⟩ := x
 obtain ⟨⟨A', n', c'⟩, ⟨⟨yk, yy, yv, yd⟩, yp⟩⟩ := y
 show Calls _ _ #[.agg #[.int .i64 xk, .int .i64 xy, .int .i64 xv, .slice A n c, .int .i64 xp], .agg #[.int .i64 yk, .int .i64 yy, .int .i64 yv, .slice A' n' c', .int .i64 yp]] w _
 go_enter Try.func110, Try.ntmps110
 go_upto_region 1 with (fail)
 generalize hwn : World.alloc (World.alloc w _) _ = W
 have hx : Gr w W := by rw [← hwn]; exact (Gr.alloc _ _).trans (Gr.alloc _ _)
 have b2 : Box W w.heap.size 74 #[.int .i64 xk, .int .i64 xy, .int .i64 xv, .slice A n c, .int .i64 xp] := by rw [← hwn]; exact (Box.new _ _ _ rfl).alloc _
 have b3 : Box W (w.heap.size + 1) 74 #[.int .i64 yk, .int .i64 yy, .int .i64 yv, .slice A' n' c', .int .i64 yp] := by rw [← hwn]; exact Box.new _ _ _ (by simp)
 clear hwn
 have hx := hx.trans (Gr.drew _)
 have b2 := b2.drew
 have b3 := b3.drew
 refine wp_region_u Gr Gr.refl (fun _ _ _ h k => Gr.trans h k) 22 [21] [0, 1, 2, 3, 4, 5, 7, 8, 9, 10, 11, 12, 14, 15, 16, 17, 21] rfl (by kernel_rfl) (by kernel_rfl) ?_
 generalize W.drew = D at hx b2 b3 ⊢
 apply uF 0 (by kernel_rfl) (by rfl) (by rfl) (by rfl)
 ·(intro w' hx; (obtain ⟨x0, x1, x2, x3, x4⟩ := (b2.ext hx.ext).c5; obtain ⟨y0, y1, y2, y3, y4⟩ := (b3.ext hx.ext).c5); go_simp <;> with_reducible rfl)
 simp only [pA, pB, pC, pD]
 apply uF 1 (by kernel_rfl) (by rfl) (by rfl) (by rfl)
 ·(intro w' hx; (obtain ⟨x0, x1, x2, x3, x4⟩ := (b2.ext hx.ext).c5; obtain ⟨y0, y1, y2, y3, y4⟩ := (b3.ext hx.ext).c5); go_simp <;> with_reducible rfl)
 simp only [pA, pB, pC, pD]
 apply uF 2 (by kernel_rfl) (by rfl) (by rfl) (by rfl)
 ·(intro w' hx; (obtain ⟨x0, x1, x2, x3, x4⟩ := (b2.ext hx.ext).c5; obtain ⟨y0, y1, y2, y3, y4⟩ := (b3.ext hx.ext).c5); go_simp <;> with_reducible rfl)
 simp only [pA, pB, pC, pD]
 apply uF 3 (by kernel_rfl) (by rfl) (by rfl) (by rfl)
 ·(intro w' hx; (obtain ⟨x0, x1, x2, x3, x4⟩ := (b2.ext hx.ext).c5; obtain ⟨y0, y1, y2, y3, y4⟩ := (b3.ext hx.ext).c5); go_simp <;> with_reducible rfl)
 simp only [pA, pB, pC, pD]
 apply uF 4 (by kernel_rfl) (by rfl) (by rfl) (by rfl)
 ·(intro w' hx; (obtain ⟨x0, x1, x2, x3, x4⟩ := (b2.ext hx.ext).c5; obtain ⟨y0, y1, y2, y3, y4⟩ := (b3.ext hx.ext).c5); go_simp <;> with_reducible rfl)
 simp only [pA, pB, pC, pD]
 apply uF 5 (by kernel_rfl) (by rfl) (by rfl) (by rfl)
 ·(intro w' hx; (obtain ⟨x0, x1, x2, x3, x4⟩ := (b2.ext hx.ext).c5; obtain ⟨y0, y1, y2, y3, y4⟩ := (b3.ext hx.ext).c5); go_simp <;> with_reducible rfl)
 simp only [pA, pB, pC, pD]
 apply uF 7 (by kernel_rfl) (by rfl) (by rfl) (by rfl)
 ·(intro w' hx; (obtain ⟨x0, x1, x2, x3, x4⟩ := (b2.ext hx.ext).c5; obtain ⟨y0, y1, y2, y3, y4⟩ := (b3.ext hx.ext).c5); go_simp <;> with_reducible rfl)
 simp only [pA, pB, pC, pD]
 apply uF 8 (by kernel_rfl) (by rfl) (by rfl) (by rfl)
 ·(intro w' hx; (obtain ⟨x0, x1, x2, x3, x4⟩ := (b2.ext hx.ext).c5; obtain ⟨y0, y1, y2, y3, y4⟩ := (b3.ext hx.ext).c5); go_simp <;> with_reducible rfl)
 simp only [pA, pB, pC, pD]
 apply uF 9 (by kernel_rfl) (by rfl) (by rfl) (by rfl)
 ·(intro w' hx; (obtain ⟨x0, x1, x2, x3, x4⟩ := (b2.ext hx.ext).c5; obtain ⟨y0, y1, y2, y3, y4⟩ := (b3.ext hx.ext).c5); go_simp <;> with_reducible rfl)
 simp only [pA, pB, pC, pD]
 apply uF 10 (by kernel_rfl) (by rfl) (by rfl) (by rfl)
 ·(intro w' hx; (obtain ⟨x0, x1, x2, x3, x4⟩ := (b2.ext hx.ext).c5; obtain ⟨y0, y1, y2, y3, y4⟩ := (b3.ext hx.ext).c5); go_simp <;> with_reducible rfl)
 simp only [pA, pB, pC, pD]
 apply uF 11 (by kernel_rfl) (by rfl) (by rfl) (by rfl)
 ·(intro w' hx; (obtain ⟨x0, x1, x2, x3, x4⟩ := (b2.ext hx.ext).c5; obtain ⟨y0, y1, y2, y3, y4⟩ := (b3.ext hx.ext).c5); go_simp <;> with_reducible rfl)
 simp only [pA, pB, pC, pD]
 apply uF 12 (by kernel_rfl) (by rfl) (by rfl) (by rfl)
 ·(intro w' hx; (obtain ⟨x0, x1, x2, x3, x4⟩ := (b2.ext hx.ext).c5; obtain ⟨y0, y1, y2, y3, y4⟩ := (b3.ext hx.ext).c5); go_simp <;> with_reducible rfl)
 simp only [pA, pB, pC, pD]
 apply uF 14 (by kernel_rfl) (by rfl) (by rfl) (by rfl)
 ·(intro w' hx; (obtain ⟨x0, x1, x2, x3, x4⟩ := (b2.ext hx.ext).c5; obtain ⟨y0, y1, y2, y3, y4⟩ := (b3.ext hx.ext).c5); go_simp <;> with_reducible rfl)
 simp only [pA, pB, pC, pD]
 apply uF 15 (by kernel_rfl) (by rfl) (by rfl) (by rfl)
 ·(intro w' hx; (obtain ⟨x0, x1, x2, x3, x4⟩ := (b2.ext hx.ext).c5; obtain ⟨y0, y1, y2, y3, y4⟩ := (b3.ext hx.ext).c5); go_simp <;> with_reducible rfl)
 simp only [pA, pB, pC, pD]
 apply uF 16 (by kernel_rfl) (by rfl) (by rfl) (by rfl)
 ·(intro w' hx; (obtain ⟨x0, x1, x2, x3, x4⟩ := (b2.ext hx.ext).c5; obtain ⟨y0, y1, y2, y3, y4⟩ := (b3.ext hx.ext).c5); go_simp <;> with_reducible rfl)
 simp only [pA, pB, pC, pD]
 apply uF 17 (by kernel_rfl) (by rfl) (by rfl) (by rfl)
 ·(intro w' hx; (obtain ⟨x0, x1, x2, x3, x4⟩ := (b2.ext hx.ext).c5; obtain ⟨y0, y1, y2, y3, y4⟩ := (b3.ext hx.ext).c5); go_simp <;> with_reducible rfl)
 simp only [pA, pB, pC, pD]
 clear b2 b3
 refine uS 6 (by kernel_rfl) (by kernel_rfl) (by rfl) (by rfl) (fun K hK => ?_)
 go_wp2_with (go_at_call 128; refine (compare_w _ _ _).mono ?_; rintro e w1 ⟨rfl, rfl⟩)
 refine hK.out _ _ (Gr.refl _) ?_
 clear hK K
 try simp only [pA, pB, pC, pD]
 refine uS 13 (by kernel_rfl) (by kernel_rfl) (by rfl) (by rfl) (fun K hK => ?_)
 go_wp2_with (go_at_call 128; refine (compare_w _ _ _).mono ?_; rintro e w1 ⟨rfl, rfl⟩)
 refine hK.out _ _ (Gr.refl _) ?_
 clear hK K
 try simp only [pA, pB, pC, pD]
 refine uS 18 (by kernel_rfl) (by kernel_rfl) (by rfl) (by rfl) (fun K hK => ?_)
 go_wp2_with (go_at_call 128; refine (compare_w _ _ _).mono ?_; rintro e w1 ⟨rfl, rfl⟩)
 refine hK.out _ _ (Gr.refl _) ?_
 clear hK K
 try simp only [pA, pB, pC, pD]
 refine uS 19 (by kernel_rfl) (by kernel_rfl) (by rfl) (by rfl) (fun K hK => ?_)
 go_wp2
 refine hK.out _ _ (Gr.alloc _ _) ?_
 clear hK K
 try simp only [pA, pB, pC, pD]
 generalize hwn : World.alloc D _ = D2
 have hx := hx.trans (by rw [← hwn]; exact Gr.alloc _ _ : Gr D D2)
 have b4 : Box D2 D.heap.size 3 #[.int .i64 (Lib.compareInt xy yy), .int .i64 (Lib.compareInt xv yv), .int .i64 (Lib.compareInt xp yp)] := by rw [← hwn]; exact Box.new _ _ _ rfl
 clear hwn
 refine uS 20 (by kernel_rfl) (by kernel_rfl) (by rfl) (by rfl) (fun K hK => ?_)
 go_wp2_with (go_at_call 127; refine (or_w b4).mono ?_; rintro e w1 ⟨rfl, rfl⟩)
 refine hK.out _ _ (Gr.refl _) ?_
 clear hK K
 try simp only [pA, pB, pC, pD]
 apply uU 21 (by kernel_rfl) (by rfl) (by rfl)
 ·(intro w'; go_simp <;> with_reducible rfl)
 simp only [pA, pB, pC, pD]
 refine uEnd (by kernel_rfl) ?_
 go_wp2_with fail
 go_ret
 exact ⟨rfl, hx⟩
theorem cmpLays_ent (blk off size : Nat) (w : World) : CmpLays Try.prog 110 #[] enc5 5 cf5 blk off size w := fun _ _ _ _ x y => order_w x y _
theorem sortEnt_v {w : World} {rb base : Nat} {v : Value} {l : List Ent} (h : OwnRow eEnt w rb base v l) (hb : base ≤ rb) (hl : l.length ≤ 4096) :
  Calls Try.prog 109 #[v, .func (.func 110) #[] #[]] w fun e w' => e = .returned (.tuple #[]) ∧ ∃ l', l'.Perm l ∧ (l'.Pairwise fun a b => ¬ eLt b a) ∧ OwnRow eEnt w' rb base v l' ∧ Below rb w w' := by
 have eg : ∀ args w, (callFunc 110 args).run Try.prog w = .ok (.enter 110 args) w := enters_of Try.func110 (by kernel_rfl) rfl
 by_cases hn : l = []
 ·subst hn
  obtain ⟨A, c, rfl⟩ := h.shape
  refine (AnyF.slices_SortFunc_none Try.sortEnt A c _ w).mono ?_
  rintro e w' ⟨rfl, rfl⟩
  exact ⟨rfl, [], List.Perm.refl _, List.Pairwise.nil, h, Below.refl _ _⟩
 ·obtain ⟨g, cap, d, rfl, hds, hrg, hlt, hH, hdm, hres⟩ := h.sort hn hb
  refine (AnyQ.slices_SortFunc Try.sortEnt 5 Try.isAgg74 Try.sizeOf74 enc5 enc5_len enc5_one cf5 swo5 110 #[] g 0 cap d w eg (cmpLays_ent g 0 d.size w) hH hlt (by omega)).mono ?_
  rintro e w' ⟨rfl, d', m, os, hp, hs, rfl⟩
  obtain ⟨l', h1, h2, h3, h4⟩ := hres d' m os hp hs
  exact ⟨rfl, l', h1, h2, h3, h4⟩
end Go.Proofs.Ytpidjkadpnjahaa
