/- Walks: cmp.Compare, cmp.Or, index.order; slices.SortFunc of entries. -/
import Derived.Test.YtdmnmfnmaccmoaaGreatDoorIx0
import Derived.Test.YtdmnmfnmaccmoaaGreatDoorPr5
import Derived.Shelf.SlGeneric
import Derived.Shelf.Lay
import Derived.Ground.SlsfProg
import Derived.Shelf.SlSortCmp.NoneTotal
namespace Go.Proofs
open Go.Shelf
def Tryz.sortEnt_ren : Go.Shelf.Ren := ⟨fun | 6 => 75 | 15 => 99 | 14 => 98 | 28 => 128 | 29 => 129 | 20 => 120 | 21 => 121 | 22 => 122 | 23 => 123 | 24 => 124 | 25 => 125 | 26 => 126 | 27 => 127 | 46 => 146 | 47 => 147 | 48 => 148 | 49 => 149 | 50 => 150 | 57 => 159 | n => n, fun | 22 => 28 | 24 => 78 | 25 => 138 | 3 => 3 | 39 => 161 | 0 => 0 | 53 => 191 | 55 => 125 | 4 => 4 | 46 => 185 | 45 => 184 | 50 => 57 | 5 => 5 | 9 => 9 | 66 => 205 | 70 => 209 | 76 => 225 | 77 => 226 | n => n, fun | n => n⟩
theorem Tryz.sortEnt : Go.Proofs.SlLaysF0.n6 Tryz.prog Tryz.sortEnt_ren := {
  mixed := by kernel_rfl
  f6 := ⟨Tryz.f75.name, by decide, Tryz.func75.trans (congrArg some (by kernel_rfl))⟩
  f14 := ⟨Tryz.f98.name, by decide, Tryz.func98.trans (congrArg some (by kernel_rfl))⟩
  f15 := Tryz.func99.trans (congrArg some (by kernel_rfl))
  f20 := ⟨Tryz.f120.name, by decide, Tryz.func120.trans (congrArg some (by kernel_rfl))⟩
  f21 := ⟨Tryz.f121.name, by decide, Tryz.func121.trans (congrArg some (by kernel_rfl))⟩
  f22 := ⟨Tryz.f122.name, by decide, Tryz.func122.trans (congrArg some (by kernel_rfl))⟩
  f23 := ⟨Tryz.f123.name, by decide, Tryz.func123.trans (congrArg some (by kernel_rfl))⟩
  f24 := ⟨Tryz.f124.name, by decide, Tryz.func124.trans (congrArg some (by kernel_rfl))⟩
  f25 := ⟨Tryz.f125.name, by decide, Tryz.func125.trans (congrArg some (by kernel_rfl))⟩
  f26 := ⟨Tryz.f126.name, by decide, Tryz.func126.trans (congrArg some (by kernel_rfl))⟩
  f27 := ⟨Tryz.f127.name, by decide, Tryz.func127.trans (congrArg some (by kernel_rfl))⟩
  f28 := Tryz.func128.trans (congrArg some (by kernel_rfl))
  f29 := Tryz.func129.trans (congrArg some (by kernel_rfl))
  f46 := ⟨Tryz.f146.name, by decide, Tryz.func146.trans (congrArg some (by kernel_rfl))⟩
  f47 := Tryz.func147.trans (congrArg some (by kernel_rfl))
  f48 := Tryz.func148.trans (congrArg some (by kernel_rfl))
  f49 := ⟨Tryz.f149.name, by decide, Tryz.func149.trans (congrArg some (by kernel_rfl))⟩
  f50 := ⟨Tryz.f150.name, by decide, Tryz.func150.trans (congrArg some (by kernel_rfl))⟩
  f57 := ⟨Tryz.f159.name, by decide, Tryz.func159.trans (congrArg some (by kernel_rfl))⟩
  t0 := Tryz.underlying0
  a0 := Tryz.isAgg0
  z0 := Tryz.sizeOf0
  v0 := Tryz.zeroValue0
  t3 := Tryz.underlying3
  a3 := Tryz.isAgg3
  z3 := Tryz.sizeOf3
  v3 := Tryz.zeroValue3
  t4 := Tryz.underlying4
  a4 := Tryz.isAgg4
  z4 := Tryz.sizeOf4
  v4 := Tryz.zeroValue4
  t5 := Tryz.underlying5
  a5 := Tryz.isAgg5
  z5 := Tryz.sizeOf5
  v5 := Tryz.zeroValue5
  t9 := Tryz.underlying9
  a9 := Tryz.isAgg9
  z9 := Tryz.sizeOf9
  v9 := Tryz.zeroValue9
  t22 := Tryz.underlying28
  a22 := Tryz.isAgg28
  z22 := Tryz.sizeOf28
  v22 := Tryz.zeroValue28
  t25 := Tryz.underlying138
  a25 := Tryz.isAgg138
  z25 := Tryz.sizeOf138
  v25 := Tryz.zeroValue138
  t39 := Tryz.underlying161
  a39 := Tryz.isAgg161
  z39 := Tryz.sizeOf161
  v39 := Tryz.zeroValue161
  t45 := Tryz.underlying184
  a45 := Tryz.isAgg184
  z45 := Tryz.sizeOf184
  v45 := Tryz.zeroValue184
  t46 := Tryz.underlying185
  a46 := Tryz.isAgg185
  z46 := Tryz.sizeOf185
  v46 := Tryz.zeroValue185
  t50 := Tryz.underlying57
  a50 := Tryz.isAgg57
  z50 := Tryz.sizeOf57
  v50 := Tryz.zeroValue57
  t53 := Tryz.underlying191
  a53 := Tryz.isAgg191
  z53 := Tryz.sizeOf191
  v53 := Tryz.zeroValue191
  t55 := Tryz.underlying125
  a55 := Tryz.isAgg125
  z55 := Tryz.sizeOf125
  v55 := Tryz.zeroValue125
  t66 := Tryz.underlying205
  a66 := Tryz.isAgg205
  z66 := Tryz.sizeOf205
  v66 := Tryz.zeroValue205
  t70 := Tryz.underlying209
  a70 := Tryz.isAgg209
  z70 := Tryz.sizeOf209
  v70 := Tryz.zeroValue209
  t76 := Tryz.underlying225
  a76 := Tryz.isAgg225
  z76 := Tryz.sizeOf225
  v76 := Tryz.zeroValue225
  t77 := Tryz.underlying226
  a77 := Tryz.isAgg226
  z77 := Tryz.sizeOf226
  v77 := Tryz.zeroValue226 }
end Go.Proofs
namespace Go.Proofs.YtdmnmfnmaccmoaaGreatDoor
open Go Go.RowKit Go.Sort
theorem nan_w (x : Int) (w : World) : Calls Tryz.prog 130 #[.int .i64 x] w fun e w' => e = .returned (.bool false) ∧ w = w' := by
 go_enter Tryz.func130, Tryz.ntmps130
 have q : (x != x) = false := by simp
 go_wp2_with fail
 go_ret
 exact ⟨rfl, rfl⟩
theorem compare_w (x y : Int) (w : World) : Calls Tryz.prog 101 #[.int .i64 x, .int .i64 y] w fun e w' => e = .returned (.int .i64 (Lib.compareInt x y)) ∧ w = w' := by
 have hn := fun x w => nan_w x w
 go_enter Tryz.func101, Tryz.ntmps101
 by_cases h1 : x < y
 ·have q1 : decide (x < y) = true := by simpa using h1
  go_wp2_with (go_at_call 130; refine (hn _ _).mono ?_; rintro e w' ⟨rfl, rfl⟩)
  go_ret
  exact ⟨by unfold Lib.compareInt; rw [if_pos h1]; rfl, rfl⟩
 ·have q1 : decide (x < y) = false := by simpa using h1
  by_cases h2 : y < x
  ·have q2 : decide (y < x) = true := by simpa using h2
   go_wp2_with (go_at_call 130; refine (hn _ _).mono ?_; rintro e w' ⟨rfl, rfl⟩)
   go_ret
   exact ⟨by unfold Lib.compareInt; rw [if_neg (by omega), if_pos (by omega)]; rfl, rfl⟩
  ·have q2 : decide (y < x) = false := by simpa using h2
   go_wp2_with (go_at_call 130; refine (hn _ _).mono ?_; rintro e w' ⟨rfl, rfl⟩)
   go_ret
   exact ⟨by unfold Lib.compareInt; rw [if_neg (by omega), if_neg (by omega)]; rfl, rfl⟩
theorem or_w {a b c : Int} {g : Nat} {w : World} (hb : Box w g 3 #[.int .i64 a, .int .i64 b, .int .i64 c]) :
  Calls Tryz.prog 100 #[.slice (some ⟨g, 0, none⟩) 3 3] w fun e w' => e = .returned (.int .i64 (or3 a b c)) ∧ w = w' := by
 obtain ⟨c0, c1, c2⟩ := hb.c3
 go_enter Tryz.func100, Tryz.ntmps100
 go_wp2_with fail
 refine wp_loop_rounds 4 ?_
 by_cases h1 : a = 0
 ·subst h1
  by_cases h2 : b = 0
  ·subst h2
   by_cases h3 : c = 0
   ·subst h3
    rw [rounds_succ]
    go_wp2_with fail
    rw [rounds_succ]
    go_wp2_with fail
    rw [rounds_succ]
    go_wp2_with fail
    rw [rounds_succ]
    go_wp2_with fail
    go_ret
    exact ⟨rfl, rfl⟩
   ·have q : (c != 0) = true := by simpa using h3
    rw [rounds_succ]
    go_wp2_with fail
    rw [rounds_succ]
    go_wp2_with fail
    rw [rounds_succ]
    go_wp2_with fail
    go_ret
    exact ⟨by unfold or3; rfl, rfl⟩
  ·have q : (b != 0) = true := by simpa using h2
   rw [rounds_succ]
   go_wp2_with fail
   rw [rounds_succ]
   go_wp2_with fail
   go_ret
   exact ⟨by unfold or3; rw [if_neg (by simp), if_pos h2]; rfl, rfl⟩
 ·have q : (a != 0) = true := by simpa using h1
  rw [rounds_succ]
  go_wp2_with fail
  go_ret
  exact ⟨by unfold or3; rw [if_pos h1]; rfl, rfl⟩
def Gr (w w' : World) : Prop := ∃ q os, w' = grow (w.drewN q) os
theorem Gr.refl (w : World) : Gr w w := ⟨0, #[], by rw [grow_empty]; rfl⟩
theorem Gr.trans {a b c : World} (h : Gr a b) (k : Gr b c) : Gr a c := by
 obtain ⟨q, os, rfl⟩ := h
 obtain ⟨q', os', rfl⟩ := k
 exact ⟨q + q', os ++ os', by
  rw [show (grow (a.drewN q) os).drewN q' = grow ((a.drewN q).drewN q') os from rfl, grow_grow]
  show grow { a with drawn := a.drawn + q + q' } _ = grow { a with drawn := a.drawn + (q + q') } _
  rw [Nat.add_assoc]⟩
theorem Gr.alloc (w : World) (o : Obj) : Gr w (w.alloc o) := ⟨0, #[o], by rw [alloc_eq_grow]; rfl⟩
theorem Gr.drew (w : World) : Gr w w.drew := ⟨1, #[], by rw [grow_empty]; rfl⟩
theorem Gr.ext {a b : World} (h : Gr a b) : Ext a b := by
 obtain ⟨q, os, rfl⟩ := h
 exact ⟨rfl, rfl, rfl, by rw [size_grow]; exact Nat.le_add_right _ _, fun k hk => heap_grow_old _ _ hk⟩
set_option maxRecDepth 100000 in
set_option maxHeartbeats 4000000 in
theorem order_w (x y : Cell5) (w : World) : Calls Tryz.prog 76 #[.agg (enc5 x).toArray, .agg (enc5 y).toArray] w fun e w' => e = .returned (.int .i64 (cf5 x y)) ∧ Gr w w' := by
 obtain ⟨⟨A, n, c⟩, ⟨⟨xk, xy, xv, xd⟩, xp⟩⟩ := x
 obtain ⟨⟨A', n', c'⟩, ⟨⟨yk, yy, yv, yd⟩, yp⟩⟩ := y
 show Calls _ _ #[.agg #[.int .i64 xk, .int .i64 xy, .int .i64 xv, .slice A n c, .int .i64 xp], .agg #[.int .i64 yk, .int .i64 yy, .int .i64 yv, .slice A' n' c', .int .i64 yp]] w _
 go_enter Tryz.func76, Tryz.ntmps76
 go_upto_region 1 with (fail)
 generalize hwn : World.alloc (World.alloc w _) _ = W
 have hx : Gr w W := by rw [← hwn]; exact (Gr.alloc _ _).trans (Gr.alloc _ _)
 have b2 : Box W w.heap.size 78 #[.int .i64 xk, .int .i64 xy, .int .i64 xv, .slice A n c, .int .i64 xp] := by rw [← hwn]; exact (Box.new _ _ _ rfl).alloc _
 have b3 : Box W (w.heap.size + 1) 78 #[.int .i64 yk, .int .i64 yy, .int .i64 yv, .slice A' n' c', .int .i64 yp] := by rw [← hwn]; exact Box.new _ _ _ (by simp)
 clear hwn
 have hx := hx.trans (Gr.drew _)
 have b2 := b2.drew
 have b3 := b3.drew
 refine wp_region_u Gr Gr.refl (fun _ _ _ h k => Gr.trans h k) 22 [21] [0, 1, 2, 3, 4, 5, 7, 8, 9, 10, 11, 12, 14, 15, 16, 17, 21] rfl (by kernel_rfl) (by kernel_rfl) ?_
 generalize W.drew = D at hx b2 b3 ⊢
 apply uF 0 (by kernel_rfl) (by rfl) (by rfl) (by rfl)
 ·(intro w' hx; (obtain ⟨x0, x1, x2, x3, x4⟩ := (b2.ext hx.ext).c5; obtain ⟨y0, y1, y2, y3, y4⟩ := (b3.ext hx.ext).c5); go_simp <;> with_reducible rfl)
 simp only [pA, pB, pC, pD]
 apply uF 1 (by kernel_rfl) (by rfl) (by rfl) (by rfl)
 ·(intro w' hx; (obtain ⟨x0, x1, x2, x3, x4⟩ := (b2.ext hx.ext).c5; obtain ⟨y0, y1, y2, y3, y4⟩ := (b3.ext hx.ext).c5); go_simp <;> with_reducible rfl)
 simp only [pA, pB, pC, pD]
 apply uF 2 (by kernel_rfl) (by rfl) (by rfl) (by rfl)
 ·(intro w' hx; (obtain ⟨x0, x1, x2, x3, x4⟩ := (b2.ext hx.ext).c5; obtain ⟨y0, y1, y2, y3, y4⟩ := (b3.ext hx.ext).c5); go_simp <;> with_reducible rfl)
 simp only [pA, pB, pC, pD]
 apply uF 3 (by kernel_rfl) (by rfl) (by rfl) (by rfl)
 ·(intro w' hx; (obtain ⟨x0, x1, x2, x3, x4⟩ := (b2.ext hx.ext).c5; obtain ⟨y0, y1, y2, y3, y4⟩ := (b3.ext hx.ext).c5); go_simp <;> with_reducible rfl)
 simp only [pA, pB, pC, pD]
 apply uF 4 (by kernel_rfl) (by rfl) (by rfl) (by rfl)
 ·(intro w' hx; (obtain ⟨x0, x1, x2, x3, x4⟩ := (b2.ext hx.ext).c5; obtain ⟨y0, y1, y2, y3, y4⟩ := (b3.ext hx.ext).c5); go_simp <;> with_reducible rfl)
 simp only [pA, pB, pC, pD]
 apply uF 5 (by kernel_rfl) (by rfl) (by rfl) (by rfl)
 ·(intro w' hx; (obtain ⟨x0, x1, x2, x3, x4⟩ := (b2.ext hx.ext).c5; obtain ⟨y0, y1, y2, y3, y4⟩ := (b3.ext hx.ext).c5); go_simp <;> with_reducible rfl)
 simp only [pA, pB, pC, pD]
 apply uF 7 (by kernel_rfl) (by rfl) (by rfl) (by rfl)
 ·(intro w' hx; (obtain ⟨x0, x1, x2, x3, x4⟩ := (b2.ext hx.ext).c5; obtain ⟨y0, y1, y2, y3, y4⟩ := (b3.ext hx.ext).c5); go_simp <;> with_reducible rfl)
 simp only [pA, pB, pC, pD]
 apply uF 8 (by kernel_rfl) (by rfl) (by rfl) (by rfl)
 ·(intro w' hx; (obtain ⟨x0, x1, x2, x3, x4⟩ := (b2.ext hx.ext).c5; obtain ⟨y0, y1, y2, y3, y4⟩ := (b3.ext hx.ext).c5); go_simp <;> with_reducible rfl)
 simp only [pA, pB, pC, pD]
 apply uF 9 (by kernel_rfl) (by rfl) (by rfl) (by rfl)
 ·(intro w' hx; (obtain ⟨x0, x1, x2, x3, x4⟩ := (b2.ext hx.ext).c5; obtain ⟨y0, y1, y2, y3, y4⟩ := (b3.ext hx.ext).c5); go_simp <;> with_reducible rfl)
 simp only [pA, pB, pC, pD]
 apply uF 10 (by kernel_rfl) (by rfl) (by rfl) (by rfl)
 ·(intro w' hx; (obtain ⟨x0, x1, x2, x3, x4⟩ := (b2.ext hx.ext).c5; obtain ⟨y0, y1, y2, y3, y4⟩ := (b3.ext hx.ext).c5); go_simp <;> with_reducible rfl)
 simp only [pA, pB, pC, pD]
 apply uF 11 (by kernel_rfl) (by rfl) (by rfl) (by rfl)
 ·(intro w' hx; (obtain ⟨x0, x1, x2, x3, x4⟩ := (b2.ext hx.ext).c5; obtain ⟨y0, y1, y2, y3, y4⟩ := (b3.ext hx.ext).c5); go_simp <;> with_reducible rfl)
 simp only [pA, pB, pC, pD]
 apply uF 12 (by kernel_rfl) (by rfl) (by rfl) (by rfl)
 ·(intro w' hx; (obtain ⟨x0, x1, x2, x3, x4⟩ := (b2.ext hx.ext).c5; obtain ⟨y0, y1, y2, y3, y4⟩ := (b3.ext hx.ext).c5); go_simp <;> with_reducible rfl)
 simp only [pA, pB, pC, pD]
 apply uF 14 (by kernel_rfl) (by rfl) (by rfl) (by rfl)
 ·(intro w' hx; (obtain ⟨x0, x1, x2, x3, x4⟩ := (b2.ext hx.ext).c5; obtain ⟨y0, y1, y2, y3, y4⟩ := (b3.ext hx.ext).c5); go_simp <;> with_reducible rfl)
 simp only [pA, pB, pC, pD]
 apply uF 15 (by kernel_rfl) (by rfl) (by rfl) (by rfl)
 ·(intro w' hx; (obtain ⟨x0, x1, x2, x3, x4⟩ := (b2.ext hx.ext).c5; obtain ⟨y0, y1, y2, y3, y4⟩ := (b3.ext hx.ext).c5); go_simp <;> with_reducible rfl)
 simp only [pA, pB, pC, pD]
 apply uF 16 (by kernel_rfl) (by rfl) (by rfl) (by rfl)
 ·(intro w' hx; (obtain ⟨x0, x1, x2, x3, x4⟩ := (b2.ext hx.ext).c5; obtain ⟨y0, y1, y2, y3, y4⟩ := (b3.ext hx.ext).c5); go_simp <;> with_reducible rfl)
 simp only [pA, pB, pC, pD]
 apply uF 17 (by kernel_rfl) (by rfl) (by rfl) (by rfl)
 ·(intro w' hx; (obtain ⟨x0, x1, x2, x3, x4⟩ := (b2.ext hx.ext).c5; obtain ⟨y0, y1, y2, y3, y4⟩ := (b3.ext hx.ext).c5); go_simp <;> with_reducible rfl)
 simp only [pA, pB, pC, pD]
 clear b2 b3
 refine uS 6 (by kernel_rfl) (by kernel_rfl) (by rfl) (by rfl) (fun K hK => ?_)
 go_wp2_with (go_at_call 101; refine (compare_w _ _ _).mono ?_; rintro e w1 ⟨rfl, rfl⟩)
 refine hK.out _ _ (Gr.refl _) ?_
 clear hK K
 try simp only [pA, pB, pC, pD]
 refine uS 13 (by kernel_rfl) (by kernel_rfl) (by rfl) (by rfl) (fun K hK => ?_)
 go_wp2_with (go_at_call 101; refine (compare_w _ _ _).mono ?_; rintro e w1 ⟨rfl, rfl⟩)
 refine hK.out _ _ (Gr.refl _) ?_
 clear hK K
 try simp only [pA, pB, pC, pD]
 refine uS 18 (by kernel_rfl) (by kernel_rfl) (by rfl) (by rfl) (fun K hK => ?_)
 go_wp2_with (go_at_call 101; refine (compare_w _ _ _).mono ?_; rintro e w1 ⟨rfl, rfl⟩)
 refine hK.out _ _ (Gr.refl _) ?_
 clear hK K
 try simp only [pA, pB, pC, pD]
 refine uS 19 (by kernel_rfl) (by kernel_rfl) (by rfl) (by rfl) (fun K hK => ?_)
 go_wp2
 refine hK.out _ _ (Gr.alloc _ _) ?_
 clear hK K
 try simp only [pA, pB, pC, pD]
 generalize hwn : World.alloc D _ = D2
 have hx := hx.trans (by rw [← hwn]; exact Gr.alloc _ _ : Gr D D2)
 have b4 : Box D2 D.heap.size 3 #[.int .i64 (Lib.compareInt xy yy), .int .i64 (Lib.compareInt xv yv), .int .i64 (Lib.compareInt xp yp)] := by rw [← hwn]; exact Box.new _ _ _ rfl
 clear hwn
 refine uS 20 (by kernel_rfl) (by kernel_rfl) (by rfl) (by rfl) (fun K hK => ?_)
 go_wp2_with (go_at_call 100; refine (or_w b4).mono ?_; rintro e w1 ⟨rfl, rfl⟩)
 refine hK.out _ _ (Gr.refl _) ?_
 clear hK K
 try simp only [pA, pB, pC, pD]
 apply uU 21 (by kernel_rfl) (by rfl) (by rfl)
 ·(intro w'; go_simp <;> with_reducible rfl)
 simp only [pA, pB, pC, pD]
 refine uEnd (by kernel_rfl) ?_
 go_wp2_with fail
 go_ret
 exact ⟨rfl, hx⟩
theorem cmpLays_ent (blk off size : Nat) (w : World) : CmpLays Tryz.prog 76 #[] enc5 5 cf5 blk off size w := fun _ _ _ _ x y => order_w x y _
theorem sortEnt_v {w : World} {rb base : Nat} {v : Value} {l : List Ent} (h : OwnRow eEnt w rb base v l) (hb : base ≤ rb) (hl : l.length ≤ 4096) :
  Calls Tryz.prog 75 #[v, .func (.func 76) #[] #[]] w fun e w' => e = .returned (.tuple #[]) ∧ ∃ l', l'.Perm l ∧ (l'.Pairwise fun a b => ¬ eLt b a) ∧ OwnRow eEnt w' rb base v l' ∧ Below rb w w' := by
 have eg : ∀ args w, (callFunc 76 args).run Tryz.prog w = .ok (.enter 76 args) w := enters_of Tryz.func76 (by kernel_rfl) rfl
 by_cases hn : l = []
 ·subst hn
  obtain ⟨A, c, rfl⟩ := h.shape
  refine (AnyF.slices_SortFunc_none Tryz.sortEnt A c _ w).mono ?_
  rintro e w' ⟨rfl, rfl⟩
  exact ⟨rfl, [], List.Perm.refl _, List.Pairwise.nil, h, Below.refl _ _⟩
 ·obtain ⟨g, cap, d, rfl, hds, hrg, hlt, hH, hdm, hres⟩ := h.sort hn hb
  refine (AnyQ.slices_SortFunc Tryz.sortEnt 5 Tryz.isAgg78 Tryz.sizeOf78 enc5 enc5_len enc5_one cf5 swo5 76 #[] g 0 cap d w eg (cmpLays_ent g 0 d.size w) hH hlt (by omega)).mono ?_
  rintro e w' ⟨rfl, d', m, os, hp, hs, rfl⟩
  obtain ⟨l', h1, h2, h3, h4⟩ := hres d' m os hp hs
  exact ⟨rfl, l', h1, h2, h3, h4⟩
end Go.Proofs.YtdmnmfnmaccmoaaGreatDoor
