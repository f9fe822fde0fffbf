/- Texts laid together: words, plain laws and walks of the program's functions (A5). -/
import Derived.RangeFuncNested
import Derived.RangeFuncBound
import Derived.RangeFuncCalls
import Derived.RangeFuncLeaves
import Derived.RangeFuncBox
import Derived.Shelf.Abstract
import Derived.Shelf.RegionOpen
import Derived.WalkKit
import Derived.OwnWalkIn
import Derived.TacticsInMore
import Derived.LoopNIn
import Derived.LoopIn
import Derived.Test.YtpidjkadpnjahaaIx7
import Derived.Test.YtpidjkadpnjahaaA4
import Derived.Test.YtpidjkadpnjahaaIx5
import Derived.Test.YtpidjkadpnjahaaIx6
import Derived.Test.YtpidjkadpnjahaaIxA
import Derived.Deep.Cut
import Derived.Deep.CutRange
/- Walks: slices.Backward of entries, ranged over; index.Last. -/
namespace Go.Proofs.Ytpidjkadpnjahaa
open Go Go.RowKit Go.Shelf
attribute [local go_sem] Oper.semAt_some
abbrev entV (e : Ent) (q : Option Addr × Nat × Nat) : Value := .agg #[.int .i64 e.rcd.kind, .int .i64 e.rcd.key, .int .i64 e.rcd.ver, .slice q.1 q.2.1 q.2.2, .int .i64 e.pair]
structure Elems (w : World) (base : Nat) (A : Option Addr) (n : Nat) (en : Nat → Ent) (q : Nat → Option Addr × Nat × Nat) : Prop where
 data : ∀ i, ByT w base (.slice (q i).1 (q i).2.1 (q i).2.2) (en i).rcd.data
 cells : ∀ i, i < n → ∃ b o, A = some ⟨b, o, none⟩ ∧ ∀ w', Ext w w' → w'.cell? ⟨b, o + i * 5, none⟩ = some (.int .i64 (en i).rcd.kind) ∧ w'.cell? ⟨b, o + i * 5 + 1, none⟩ = some (.int .i64 (en i).rcd.key) ∧
  w'.cell? ⟨b, o + i * 5 + 2, none⟩ = some (.int .i64 (en i).rcd.ver) ∧ w'.cell? ⟨b, o + i * 5 + 3, none⟩ = some (.slice (q i).1 (q i).2.1 (q i).2.2) ∧ w'.cell? ⟨b, o + i * 5 + 4, none⟩ = some (.int .i64 (en i).pair)
theorem Row.elems {T : List TypeId} {w : World} {base n c : Nat} {A : Option Addr} {l : List Ent} (h : Row eEnt T w base (.slice A n c) l) (hn : n = l.length) : ∃ q, Elems w base A n (fun i => l.getD i ⟨rZero, 0⟩) q := by
 have each : ∀ i, i < n → ∃ q : Option Addr × Nat × Nat, ByT w base (.slice q.1 q.2.1 q.2.2) (l.getD i ⟨rZero, 0⟩).rcd.data ∧ ∃ b o, A = some ⟨b, o, none⟩ ∧ ∀ w', Ext w w' → w'.cell? ⟨b, o + i * 5, none⟩ = some (.int .i64 (l.getD i ⟨rZero, 0⟩).rcd.kind) ∧ w'.cell? ⟨b, o + i * 5 + 1, none⟩ = some (.int .i64 (l.getD i ⟨rZero, 0⟩).rcd.key) ∧
  w'.cell? ⟨b, o + i * 5 + 2, none⟩ = some (.int .i64 (l.getD i ⟨rZero, 0⟩).rcd.ver) ∧ w'.cell? ⟨b, o + i * 5 + 3, none⟩ = some (.slice q.1 q.2.1 q.2.2) ∧ w'.cell? ⟨b, o + i * 5 + 4, none⟩ = some (.int .i64 (l.getD i ⟨rZero, 0⟩).pair) := by
  intro i hi
  obtain ⟨b, o, u, hA, _, hu, hc⟩ := h.ent_x hi
  obtain ⟨A', n', c', rfl, _⟩ := id hu
  exact ⟨(A', n', c'), hu, b, o, hA, hc⟩
 refine ⟨fun i => if h : i < n then Classical.choose (each i h) else (none, 0, 0), fun i => ?_, fun i hi => ?_⟩
 ·by_cases hi : i < n
  ·simp only [hi, dif_pos]
   exact (Classical.choose_spec (each i hi)).1
  ·simp only [hi, dif_neg, not_false_eq_true]
   rw [List.getD_eq_getElem?_getD, List.getElem?_eq_none (by omega)]
   exact ByT.nil _ _
 ·simp only [hi, dif_pos]
  exact (Classical.choose_spec (each i hi)).2
def downto (n k : Nat) : List Nat := (List.range k).map fun j => n - 1 - j
theorem downto_succ (n k : Nat) : downto n (k + 1) = downto n k ++ [n - 1 - k] := by simp [downto, List.range_succ]
theorem downto_length (n k : Nat) : (downto n k).length = k := by simp [downto]
set_option maxRecDepth 100000 in
set_option maxHeartbeats 4000000 in
theorem back1_in (F : Fence) (m : Nat) (hf : F.fn 129) (hro : F.round = none) (hm : 1 ≤ m) (lp Bs : Nat) {w : World} {base n c : Nat} {A : Option Addr} {en : Nat → Ent} {q : Nat → Option Addr × Nat × Nat} (hE : Elems w base A n en q) (hc : n ≤ c) (hcm : c ≤ maxLen)
  (J Jx : List Nat → World → Prop)
  (hY : ∀ (pre : List Nat) (x : Nat) (W : World), J pre W → pre.length < n → YieldAt F (m - 1) Try.prog lp #[.int .i64 (x : Int), entV (en x) (q x)] W fun e W' =>
   (e = .returned (.bool true) ∧ J (pre ++ [x]) W' ∧ Below w.heap.size W W') ∨ (e = .returned (.bool false) ∧ Jx (pre ++ [x]) W'))
  (W : World) (hW : Ext w W) (hBs : w.cell? ⟨Bs, 0, none⟩ = some (.slice A n c)) (hBl : Bs < w.heap.size) (h0 : J [] W) :
  CallsIn F m Try.prog 129 #[.func (.yield lp) #[] #[], .pointer (some ⟨Bs, 0, none⟩)] W fun e W' => (∃ v, e = .returned v) ∧
   ((∃ ys, ys = downto n n ∧ J ys W') ∨ (∃ pre, (∃ k, k ≤ n ∧ pre = downto n k) ∧ Jx pre W')) := by
 refine callsIn_of_wp Try.func129 rfl hf ?_ hro
 simp only [Try.ntmps129, List.size_toArray, List.length_cons, List.length_nil, Nat.reduceAdd, Nat.reduceSub, Array.replicate_succ, Array.replicate_zero, List.push_toArray, List.append_toArray, List.nil_append, List.cons_append]
 unfold maxLen at hcm
 have hB0 := (hW.cell (p := ⟨Bs, 0, none⟩) hBl).trans hBs
 have hw1 : IntKind.i64.wrap ((n : Int) - 1) = (n : Int) - 1 := by rw [IntKind.wrap_i64]; omega
 gi_wp2
 clear hB0 hw1
 gi_loopw [3] (fun i wr => ∃ k : Nat, k ≤ n ∧ i = .int .i64 ((n : Int) - 1 - k) ∧ J (downto n k) wr ∧ Ext w wr) (fun i _ => ((intOf i) + 1).toNat)
 case atStart => exact ⟨0, Nat.zero_le _, by simp, h0, hW⟩
 case round =>
  obtain ⟨k, hk, rfl, hJs, hnx⟩ := hrel
  by_cases hlt : k < n
  ·obtain ⟨j, hj⟩ : ∃ j : Nat, n - 1 - k = j := ⟨_, rfl⟩
   have ej : (n : Int) - 1 - (k : Int) = (j : Int) := by omega
   have hjn : j < n := by omega
   obtain ⟨b, o, hA, hcell⟩ := hE.cells j hjn
   obtain ⟨c0, c1, c2, c3, c4⟩ := hcell _ hnx
   have hB0 := (hnx.cell (p := ⟨Bs, 0, none⟩) hBl).trans hBs
   have HD := downto_succ n k
   rw [hj] at HD
   obtain ⟨fn, tmps, assign, body, hy, hR⟩ := hY _ j wr hJs (by rw [downto_length]; exact hlt)
   subst hA
   rw [ej]
   have e0 : (0 : Int) ≤ (j : Int) := by omega
   have e1 : (j : Int) < (n : Int) := by omega
   have hw1 : IntKind.i64.wrap ((j : Int) - 1) = (j : Int) - 1 := by rw [IntKind.wrap_i64]; omega
   dsimp only [entV] at hy
   gi_wp2
   refine hR.mono ?_
   rintro e W3 (⟨rfl, hJ3, hk3⟩ | ⟨rfl, hJx3⟩)
   ·gi_wp2
    go_roundw
    case rel => exact ⟨k + 1, by omega, by rw [show (j : Int) - 1 = (n : Int) - 1 - ((k + 1 : Nat) : Int) by omega], by rw [HD]; exact hJ3, hnx.trans hk3⟩
    case measure => simp only [intOf]; omega
   ·gi_wp2
    refine bodyPost_ret (results_none rfl _ _ _) rfl ?_
    exact ⟨⟨_, rfl⟩, .inr ⟨_, ⟨k + 1, by omega, HD.symm⟩, hJx3⟩⟩
  ·obtain rfl : k = n := by omega
   have ej : (k : Int) - 1 - (k : Int) = -1 := by omega
   rw [ej]
   gi_wp2
   go_end0
   exact ⟨⟨_, rfl⟩, .inl ⟨_, rfl, hJs⟩⟩
set_option maxHeartbeats 1000000 in
theorem back_in (F : Fence) (m : Nat) (hf : F.fn 112) (hro : F.round = none) (A : Option Addr) (n c : Nat) (w : World) :
  CallsIn F m Try.prog 112 #[.slice A n c] w fun e w' => e = .returned (.func (.func 129) #[] #[.pointer (some ⟨w.heap.size, 0, none⟩)]) ∧ w' = w.alloc (.cells #[.slice A n c] 72) := by
 refine callsIn_of_wp Try.func112 rfl hf ?_ hro
 simp only [Try.ntmps112, List.size_toArray, List.length_cons, List.length_nil, Nat.reduceAdd, Nat.reduceSub, Array.replicate_succ, Array.replicate_zero, List.push_toArray, List.append_toArray, List.nil_append, List.cons_append]
 gi_wp2
 go_ret
 exact ⟨rfl, rfl⟩
theorem back_stops (F : Fence) (m : Nat) (hf : F.fn 129) (hro : F.round = none) (hm : 1 ≤ m) (Bs : Nat) {w : World} {base n c : Nat} {A : Option Addr} {en : Nat → Ent} {q : Nat → Option Addr × Nat × Nat} (hE : Elems w base A n en q) (hc : n ≤ c) (hcm : c ≤ maxLen)
  (hBs : w.cell? ⟨Bs, 0, none⟩ = some (.slice A n c)) (hBl : Bs < w.heap.size) :
  SeqStopsK F m Try.prog 129 #[.pointer (some ⟨Bs, 0, none⟩)] (fun x : Nat => #[Value.int .i64 (x : Int), entV (en x) (q x)]) (Below w.heap.size) (fun ys => ys = downto n n) (fun pre => ∃ k, k ≤ n ∧ pre = downto n k) n w :=
 fun lp J Jx W hW _ _ hY h0 => back1_in F m hf hro hm lp Bs hE hc hcm J Jx hY W hW hBs hBl h0
theorem box_own {β : Type} (B : Nat) (t : TypeId) (f : β → Array Value) : Own (fun s W => Box W B t (f s)) := fun _ X _ _ hs hg hrow =>
 (hg.block B hs.lt (fun e' => by obtain ⟨o, ho, hc⟩ := hrow B e'.symm; rw [show X.heap[B]? = _ from hs] at ho; cases ho; cases hc)).trans hs
theorem byt_own {β : Type} (f : β → Value) (d : β → List UInt8) : Own (fun s W => ByT W 0 (f s) (d s)) := fun _ X _ _ hs hg hrow =>
 hs.kept (T := []) (Kept.grown hg fun g e => ⟨Nat.zero_le _, fun cur t _ h => by obtain ⟨o, ho, hc⟩ := hrow g e; rw [h] at ho; cases ho; cases hc⟩)
abbrev zE : Array Value := #[.int .i64 0, .int .i64 0, .int .i64 0, .slice none 0 0, .int .i64 0]
abbrev cE (e : Ent) (u : Value) : Array Value := #[.int .i64 e.rcd.kind, .int .i64 e.rcd.key, .int .i64 e.rcd.ver, u, .int .i64 e.pair]
set_option maxRecDepth 100000 in
set_option maxHeartbeats 4000000 in
theorem last_in (w : World) {base n c : Nat} {A : Option Addr} {en : Nat → Ent} {q : Nat → Option Addr × Nat × Nat} {key : Int} (hE : Elems w base A n en q) (hc : n ≤ c) (hcm : c ≤ maxLen) (hs : ∀ i, (en i).rcd.data.length ≤ 4096) :
  CallsIn Fence.wide 3 Try.prog 72 #[.slice A n c, .int .i64 key] w fun e W' => ∃ v b o, e = .returned (.tuple #[v, .bool b]) ∧ FoundV W' v b o ∧ Ext w W' ∧
   ((o = none ∧ ∀ i, i < n → (en i).rcd.key ≠ key) ∨ ∃ i, i < n ∧ o = some (en i) ∧ (en i).rcd.key = key ∧ ∀ j, i < j → j < n → (en j).rcd.key ≠ key) := by
 refine callsIn_of_wp_marks Try.func72 rfl trivial ?_ rfl
 simp only [Try.ntmps72, List.size_toArray, List.length_cons, List.length_nil, Nat.reduceAdd, Nat.reduceSub, Array.replicate_succ, Array.replicate_zero, List.push_toArray, List.append_toArray, List.nil_append, List.cons_append]
 gi_wp2
 refine ⟨trivial, ?_⟩
 refine (back_in Fence.wide 2 trivial rfl _ _ _ _).mono ?_
 rintro e w' ⟨rfl, rfl⟩
 generalize hwn : World.alloc (World.alloc (World.alloc w _) _) _ = W1
 have hx1 : Ext w W1 := by rw [← hwn]; (repeat (with_reducible (first | assumption | exact Below.refl _ _ | refine Below.setCell ?_ (by simp <;> omega) _ | refine Below.alloc ?_ (by simp <;> omega) _ | refine Below.drew ?_ | refine below_drewN ?_ _)))
 have b3 : Box W1 w.heap.size 3 #[.int .i64 key] := by rw [← hwn]; exact ((Box.new _ _ _ rfl).alloc _).alloc _
 have b4 : Box W1 (w.heap.size + 1) 74 zE := by rw [← hwn]; exact (Box.new _ _ _ (by simp)).alloc _
 have b5 : Box W1 (w.heap.size + 1 + 1) 4 #[.bool false] := by rw [← hwn]; exact Box.new _ _ _ (by simp)
 clear hwn
 gi_wp2
 generalize hwn : World.alloc W1 _ = W0
 have he : Ext W1 W0 := by rw [← hwn]; exact ext_alloc _ _
 have bS : Box W0 W1.heap.size 72 #[.slice A n c] := by rw [← hwn]; exact Box.new _ _ _ rfl
 clear hwn
 have hx0 := ext_trans hx1 he
 have b3 := b3.ext he
 have b4 := b4.ext he
 have b5 := b5.ext he
 have hE0 : Elems W0 base A n en q := ⟨fun i => (hE.data i).ext hx0, fun i hi => by
  obtain ⟨b, o, h1, h2⟩ := hE.cells i hi
  exact ⟨b, o, h1, fun w' hw => h2 w' (ext_trans hx0 hw)⟩⟩
 have lw := hx0.size
 clear hx1 he
 refine wpIn_rangeFunc_ownH rfl (by omega) (gf := 129) (lb := #[.pointer (some ⟨W1.heap.size, 0, none⟩)]) rfl trivial (enters_of Try.func129 (by kernel_rfl) rfl)
  (back_stops Fence.wide 2 trivial rfl (by omega) W1.heap.size hE0 hc hcm bS.c1 bS.lt) belowK_t (belowK_b (Nat.le_refl _)) (Below.refl _ _) (fun _ => rfl)
  (fun pre W => ((Box W w.heap.size 3 #[.int .i64 key] ∧ Box W (w.heap.size + 1) 74 zE) ∧ Box W (w.heap.size + 1 + 1) 4 #[.bool false]) ∧ (∀ x ∈ pre, (en x).rcd.key ≠ key) ∧ Below W0.heap.size W0 W)
  (fun cd pre W => (cd = .ret ∧ ∃ ini last, pre = ini ++ [last] ∧ (∀ x ∈ ini, (en x).rcd.key ≠ key) ∧ (en last).rcd.key = key ∧ ∃ u, Box W (w.heap.size + 1) 74 (cE (en last) u) ∧ ByT W 0 u (en last).rcd.data ∧ Box W (w.heap.size + 1 + 1) 4 #[.bool true]) ∧ Below w.heap.size w W)
  (OwnFrom.and (OwnFrom.and (OwnFrom.and (Own.from (box_own _ _ _) _) (Own.from (box_own _ _ _) _)) (Own.from (box_own _ _ _) _)) (OwnFrom.and (ownFrom_pure _ _) (ownFrom_below (Nat.le_refl _) (Nat.le_refl _))))
  (fun cd => OwnFrom.and (Own.from (fun s X Y row hs hg hr => by
   obtain ⟨h1, ini, last, h2, h3, h4, u, h5, h6, h7⟩ := hs
   exact ⟨h1, ini, last, h2, h3, h4, u, box_own _ _ (fun (_ : Unit) => cE (en last) u) () X Y row h5 hg hr, byt_own (fun (_ : Unit) => u) (fun _ => (en last).rcd.data) () X Y row h6 hg hr, box_own _ _ (fun (_ : Unit) => #[.bool true]) () X Y row h7 hg hr⟩) _) (ownFrom_below (Nat.le_refl _) lw))
  ⟨⟨⟨b3, b4⟩, b5⟩, by simp, Below.refl _ _⟩
  (fun x a' W => ∃ Bx, W0.heap.size ≤ Bx ∧ Box W Bx 74 (cE (en x) (.slice (q x).1 (q x).2.1 (q x).2.2)) ∧ a' = { tmps := #[.slice A n c, .int .i64 key, undef, .pointer (some ⟨w.heap.size, 0, none⟩), .pointer (some ⟨w.heap.size + 1, 0, none⟩), .pointer (some ⟨w.heap.size + 1 + 1, 0, none⟩), undef, .pointer (some ⟨Bx, 0, none⟩), .slice A n c, .func (.func 129) #[] #[.pointer (some ⟨W1.heap.size, 0, none⟩)], .int .i64 (x : Int), entV (en x) (q x), undef, undef, undef, undef, undef, undef, undef, undef, undef, undef, undef, undef], defers := [] })
  (fun x a' _ X Y row hs hg hr => by obtain ⟨Bx, h1, h2, h3⟩ := hs; exact ⟨Bx, h1, box_own Bx _ (fun (_ : Unit) => cE (en x) (.slice (q x).1 (q x).2.1 (q x).2.2)) () X Y row h2 hg (fun r e => (hr r e).2), h3⟩)
  ?assign ?body ?done ?stop
 case assign =>
  rintro lp pre x W K ⟨⟨⟨i3, i4⟩, i5⟩, hno, hB⟩ hK
  gi_wp2
  exact hK _ _ ((KeepsOthers.alloc _ _).from _) ((Below.refl _ W).alloc hB.size _) ⟨⟨⟨i3.alloc _, i4.alloc _⟩, i5.alloc _⟩, hno, hB.alloc hB.size _⟩ ⟨W.heap.size, hB.size, Box.new W _ _ rfl, rfl⟩
 case body =>
  rintro lp pre x a' W hl ⟨r, hr⟩ ⟨⟨⟨i3, i4⟩, i5⟩, hno, hB⟩ ⟨Bx, hBx, bX, rfl⟩ hlt
  have hu := (hE0.data x).ext hB
  have hsx := hs x
  obtain ⟨e, hee⟩ : ∃ e, en x = e := ⟨_, rfl⟩
  rw [hee] at bX hu hsx ⊢
  have HEE := Lib.hid hee
  clear hee
  have k0 := i3.c1
  obtain ⟨x0, x1, x2, x3, x4⟩ := bX.c5
  by_cases hk : e.rcd.key = key
  ·have qk : (e.rcd.key == key) = true := by simpa using hk
   have HK := Lib.hid hk
   clear hk
   have mixed : Try.prog.follows .mixedOrders = true := by kernel_rfl
   have hcon : ∀ W', Ext W W' → Calls Try.prog 29 #[.agg #[.int .i64 e.rcd.kind, .int .i64 e.rcd.key, .int .i64 e.rcd.ver, .slice (q x).1 (q x).2.1 (q x).2.2]] W' fun e' w' => ∃ A3 n3 c3, e' = .returned (.agg #[.int .i64 e.rcd.kind, .int .i64 e.rcd.key, .int .i64 e.rcd.ver, .slice A3 n3 c3]) ∧ ByT w' 0 (.slice A3 n3 c3) e.rcd.data ∧ Ext W' w' := fun W' hw' =>
    (recOwn_v (r := e.rcd) ⟨_, rfl, hu.ext hw'⟩ hsx).mono fun e' w' ⟨v', he1, ⟨u, he2, h2⟩, he3⟩ => by
     obtain ⟨A3, n3, c3, rfl, _, _⟩ := h2.form
     exact ⟨A3, n3, c3, by rw [he1, he2], h2, he3⟩
   have HC := Lib.hid hcon
   have HB := Lib.hid (⟨i3, i4, i5⟩ : _ ∧ _ ∧ _)
   clear hcon hu
   gi_wp2
   gi_region_with_o ((refine ⟨trivial, ?_⟩); refine (CallsIn.inRound lp (callsIn_wide.2 (HC.out _ ((Below.refl _ _).drew)))).mono ?_; rintro e' w' ⟨A3, n3, c3, rfl, h3, he⟩; have hxe := (Below.refl W.heap.size W).drew.trans (he : Below W.heap.size W.drew w'); obtain ⟨z0, z1, z2, z3, z4⟩ := (bX.ext hxe).c5; obtain ⟨d0, d1, d2, d3, d4⟩ := (HB.out.2.1.ext hxe).c5; have d5 := (HB.out.2.1.ext hxe).free; have e0 := (HB.out.2.2.ext hxe).c1; have e1 := (HB.out.2.2.ext hxe).free)
   all_goals
    gi_wp2
    have kx : KeepsOthers W w' := ⟨hxe.size, fun k o hk _ => (hxe.block k (Array.getElem?_eq_some_iff.1 hk).1).trans hk⟩
    have n4 := HB.out.2.1.ext hxe
    have n5 := HB.out.2.2.ext hxe
    have k4 := n4.kd
    have k5 := n5.kd
    have hbw : Below w.heap.size w w' := ext_trans hx0 (ext_trans hB hxe)
    refine ⟨((((((kx.trans (KeepsOthers.setCell _ _ _)).trans (KeepsOthers.setCell _ _ _)).trans (KeepsOthers.setCell _ _ _)).trans (KeepsOthers.setCell _ _ _)).trans (KeepsOthers.setCell _ _ _)).trans (KeepsOthers.setCell _ _ _)).from _, ⟨rfl, pre, x, rfl, hno, by rw [HEE.out]; exact HK.out, .slice A3 n3 c3, ?_, ?_, ?_⟩, ?_⟩
    ·rw [HEE.out]
     refine Box.setOther ?_ (by simp) _
     exact ((((n4.set 0 _).set 1 _).set 2 _).set 3 _).set 4 _
    ·rw [HEE.out]
     exact h3.kept (T := []) (by (repeat (with_reducible (first | assumption | exact Kept.refl _ _ _ | (apply Kept.setK; rotate_left; (repeat (first | assumption | apply Kd.set | apply Kd.alloc | apply Kd.drew)); decide; omega) | refine Kept.allocK ?_ _ | refine Kept.drewK ?_))))
    ·refine Box.set (cs := #[.bool false]) ?_ 0 _
     (repeat (with_reducible (first | assumption | refine Box.alloc ?_ _ | refine Box.setOther ?_ (by simp <;> omega) _)))
    ·(repeat (with_reducible (first | assumption | exact Below.refl _ _ | refine Below.setCell ?_ (by simp <;> omega) _ | refine Below.alloc ?_ (by simp <;> omega) _ | refine Below.drew ?_ | refine below_drewN ?_ _)))
  ·have qk : (e.rcd.key == key) = false := by simpa using hk
   gi_wp2
   exact ⟨KeepsFrom.refl _ _, Below.refl _ _, ⟨⟨i3, i4⟩, i5⟩, fun y hy => (List.mem_append.1 hy).elim (hno y) (fun h => by rw [List.mem_singleton.1 h, HEE.out]; exact hk), hB⟩
 case done =>
  rintro D ys W hD rfl ⟨⟨⟨i3, i4⟩, i5⟩, hno, hB⟩ hK
  obtain ⟨d0, d1, d2, d3, d4⟩ := i4.c5
  have df := i4.free
  have e0 := i5.c1
  have e1 := i5.free
  gi_wp2
  generalize hwn : World.setCell (World.setCell (World.setCell (World.setCell (World.setCell (World.setCell W _ _) _ _) _ _) _ _) _ _) _ _ = W6
  have hbw : Below w.heap.size w W6 := by rw [← hwn]; have := ext_trans hx0 hB; (repeat (with_reducible (first | assumption | exact Below.refl _ _ | refine Below.setCell ?_ (by simp <;> omega) _ | refine Below.alloc ?_ (by simp <;> omega) _ | refine Below.drew ?_ | refine below_drewN ?_ _)))
  have n4 : Box W6 (w.heap.size + 1) 74 zE := by
   rw [← hwn]
   refine Box.setOther ?_ (by simp) _
   exact ((((i4.set 0 _).set 1 _).set 2 _).set 3 _).set 4 _
  have n5 : Box W6 (w.heap.size + 1 + 1) 4 #[.bool false] := by
   rw [← hwn]
   refine Box.set (cs := #[.bool false]) ?_ 0 _
   (repeat (with_reducible (first | assumption | refine Box.alloc ?_ _ | refine Box.setOther ?_ (by simp <;> omega) _)))
  have hK' : W6.heap[D]? = some (.deferred (some [])) := by
   rw [← hwn]
   exact ((((((KeepsOthers.setCell _ _ _).trans (KeepsOthers.setCell _ _ _)).trans (KeepsOthers.setCell _ _ _)).trans (KeepsOthers.setCell _ _ _)).trans (KeepsOthers.setCell _ _ _)).trans (KeepsOthers.setCell _ _ _)).same D _ hK rfl
  clear hwn
  refine ⟨by simp, .inl ⟨_, _, rfl, run_takeDeferred hK', ?_⟩⟩
  have m4 := box_own _ _ (fun (_ : Unit) => zE) () W6 _ (some D) n4 (grownBy_putObj' _ D (.deferred none)) (fun r e => by cases e; exact ⟨_, hK', rfl⟩)
  have m5 := box_own _ _ (fun (_ : Unit) => #[Value.bool false]) () W6 _ (some D) n5 (grownBy_putObj' _ D (.deferred none)) (fun r e => by cases e; exact ⟨_, hK', rfl⟩)
  obtain ⟨y0, y1, y2, y3, y4⟩ := m4.c5
  have z0 := m5.c1
  refine ⟨.tuple #[.agg zE, .bool false], ?_, _, _, none, rfl, ⟨rfl, ⟨_, rfl, ByT.nil _ _⟩⟩, hbw.trans (belowK_b (w := w) (Nat.le_refl _) W6 D _ _ (by omega) hK' rfl rfl), .inl ⟨rfl, fun i hi => hno i ?_⟩⟩
  ·simp [results, Try.f72, go_sem, y0, y1, y2, y3, y4, z0]
  ·simp only [downto, List.mem_map, List.mem_range]
   exact ⟨n - 1 - i, by omega, by omega⟩
 case stop =>
  rintro D cd pre W hD ⟨k, hk, rfl⟩ ⟨⟨rfl, ini, last, e1, e2, e3, u, h4, h6, h5⟩, hB⟩ hK
  gi_wp2
  refine ⟨by simp, .inl ⟨_, _, rfl, run_takeDeferred hK, ?_⟩⟩
  obtain ⟨k', rfl⟩ : ∃ k', k = k' + 1 := by
   cases k with
   | zero => simp [downto] at e1
   | succ k' => exact ⟨k', rfl⟩
  rw [downto_succ] at e1
  obtain ⟨rfl, e5⟩ := List.append_inj' e1 rfl
  obtain rfl : n - 1 - k' = last := by simpa using e5
  obtain ⟨A3, n3, c3, rfl, _, _⟩ := h6.form
  have m4 := box_own _ _ (fun (_ : Unit) => cE (en (n - 1 - k')) (.slice A3 n3 c3)) () W _ (some D) h4 (grownBy_putObj' _ D (.deferred none)) (fun r e => by cases e; exact ⟨_, hK, rfl⟩)
  have m5 := box_own _ _ (fun (_ : Unit) => #[Value.bool true]) () W _ (some D) h5 (grownBy_putObj' _ D (.deferred none)) (fun r e => by cases e; exact ⟨_, hK, rfl⟩)
  have m6 := byt_own (fun (_ : Unit) => Value.slice A3 n3 c3) (fun _ => (en (n - 1 - k')).rcd.data) () W _ (some D) h6 (grownBy_putObj' _ D (.deferred none)) (fun r e => by cases e; exact ⟨_, hK, rfl⟩)
  obtain ⟨y0, y1, y2, y3, y4⟩ := m4.c5
  have z0 := m5.c1
  refine ⟨.tuple #[.agg (cE (en (n - 1 - k')) (.slice A3 n3 c3)), .bool true], ?_, _, _, some (en (n - 1 - k')), rfl, ⟨rfl, ⟨_, rfl, m6⟩⟩, hB.trans (belowK_b (w := w) (Nat.le_refl _) W D _ _ (by omega) hK rfl rfl), .inr ⟨n - 1 - k', by omega, rfl, e3, fun j h1 h2 => e2 j ?_⟩⟩
  ·simp [results, Try.f72, go_sem, y0, y1, y2, y3, y4, z0]
  ·simp only [downto, List.mem_map, List.mem_range]
   exact ⟨n - 1 - j, by omega, by omega⟩
theorem iLast_none {l : List Ent} {k : Int} (h : ∀ i, i < l.length → (l.getD i ⟨rZero, 0⟩).rcd.key ≠ k) : iLast l k = none := by
 unfold iLast
 rw [List.find?_eq_none]
 intro x hx
 obtain ⟨i, hi, rfl⟩ := List.getElem_of_mem (List.mem_reverse.1 hx)
 have := h i hi
 rw [List.getD_eq_getElem?_getD, List.getElem?_eq_getElem hi] at this
 simpa using this
theorem iLast_some {l : List Ent} {k : Int} {i : Nat} (hi : i < l.length) (h : (l.getD i ⟨rZero, 0⟩).rcd.key = k) (h1 : ∀ j, i < j → j < l.length → (l.getD j ⟨rZero, 0⟩).rcd.key ≠ k) : iLast l k = some (l.getD i ⟨rZero, 0⟩) := by
 unfold iLast
 have e : l.reverse = (l.drop (i + 1)).reverse ++ (l.getD i ⟨rZero, 0⟩ :: (l.take i).reverse) := by
  conv => lhs; rw [← List.take_append_drop i l, drop_ent hi]
  simp
 rw [e, List.find?_append]
 have h0 : (l.drop (i + 1)).reverse.find? (fun e => decide (e.rcd.key = k)) = none := by
  rw [List.find?_eq_none]
  intro x hx
  obtain ⟨j, hj, rfl⟩ := List.getElem_of_mem (List.mem_reverse.1 hx)
  rw [List.length_drop] at hj
  have := h1 (i + 1 + j) (by omega) (by omega)
  rw [List.getD_eq_getElem?_getD, List.getElem?_eq_getElem (by omega)] at this
  simpa [List.getElem_drop] using this
 rw [h0, List.find?_cons_of_pos (by simpa using h)]
 rfl
theorem ixLast_v {T : List TypeId} {base : Nat} {u : Value} {l : List Ent} {key : Int} {w : World} (h : Row eEnt T w base u l) (hs : ∀ e ∈ l, e.rcd.data.length ≤ 4096) :
  Calls Try.prog 72 #[u, .int .i64 key] w fun e w' => ∃ v b, e = .returned (.tuple #[v, .bool b]) ∧ FoundV w' v b (iLast l key) ∧ Ext w w' := by
 obtain ⟨A, n, c, rfl, hc, hcm, HN⟩ := h.form
 obtain ⟨q, hE⟩ := h.elems HN.out
 refine (callsIn_wide.1 (last_in w (key := key) hE hc hcm (fun i => ?_))).mono ?_
 ·show (l.getD i ⟨rZero, 0⟩).rcd.data.length ≤ 4096
  rcases Nat.lt_or_ge i l.length with hi | hi
  ·exact hs _ (ent_mem hi)
  ·rw [List.getD_eq_getElem?_getD, List.getElem?_eq_none hi]
   simp [rZero]
 ·rintro e w' ⟨v, b, o, he, hf, hx, ho⟩
  refine ⟨v, b, he, ?_, hx⟩
  have hn := HN.out
  rcases ho with ⟨rfl, ho⟩ | ⟨i, hi, rfl, h1, h2⟩
  ·rw [iLast_none (fun i hi => ho i (by omega))]
   exact hf
  ·rw [iLast_some (by omega) h1 (fun j hij hj => h2 j hij (by omega))]
   exact hf
end Go.Proofs.Ytpidjkadpnjahaa
/- Walks: the closed fact of chapter 5. -/
namespace Go.Proofs.Ytpidjkadpnjahaa
open Go Go.RowKit
def q2D : Dsk := (pPut dFree 2 qR).1
theorem q2In : pIn dFree 2 := by unfold pIn dFree; decide
theorem q2E : (pPut dFree 2 qR).2 = 0 := by rw [pPut_ok q2In qW]
theorem q2F : Fine q2D 2 := free_fine.put (by omega) 2 qR
def eA : Ent := ⟨qR, 2⟩
def eB : Ent := ⟨⟨3, 7, 4, []⟩, 0⟩
theorem q2S : iScan q2D = [eA] := by decide +kernel
theorem ins2 {l' : List Ent} (h : l'.Perm ([eA] ++ [eB])) (hs : l'.Pairwise fun a b => ¬ eLt b a) : l' = [eA, eB] := by
 have hp : ∀ x ∈ [eA], x.pair ≠ eB.pair := by decide
 have hl : [eA].Pairwise eLt := List.pairwise_singleton _ _
 have h1 : ([eA] ++ [eB]).Pairwise fun a b => a.pair ≠ b.pair := by decide
 rw [ins_unique h hl hp (sorted_strict hs (perm_pairs h h1))]
 decide
theorem small2 : ∀ e ∈ [eA, eB], e.rcd.data.length ≤ 4096 := by decide
set_option maxRecDepth 100000 in
set_option maxHeartbeats 4000000 in
theorem alive5_w (w : World) : Calls Try.prog 95 #[] w fun e w' => e = .returned (.bool true) ∧ Ext w w' := by
 go_enter Try.func95, Try.ntmps95
 go_upto_region 2 with (fail)
 generalize hwn : World.alloc w _ = W
 have hx : Ext w W := by rw [← hwn]; exact ext_alloc _ _
 have b1 : Box W w.heap.size 30 #[.int .i64 2, .int .i64 7, .int .i64 3, .slice none 0 0] := by rw [← hwn]; exact Box.new _ _ _ (by simp)
 clear hwn
 go_cut [2, 3] from 11 to 17 (fun t2 t3 wr => BoxD wr t2 q2D ∧ t3 = .int .i64 0 ∧ Box wr w.heap.size 30 #[.int .i64 2, .int .i64 7, .int .i64 3, .slice none 0 0] ∧ Ext w wr)
 case first =>
  have hx := hx.drew
  have b1 := b1.drew
  refine wp_region_ue 9 [5, 8] [1, 3, 4, 5, 8] rfl (by kernel_rfl) (by kernel_rfl) ?_
  generalize W.drew = D at hx b1 ⊢
  apply uF 1 (by kernel_rfl) (by rfl) (by rfl) (by rfl)
  ·(intro w' hx; obtain ⟨x0, x1, x2, x3⟩ := (b1.ext hx).c4; go_simp <;> with_reducible rfl)
  simp only [pA, pB, pC, pD]
  refine uS2 0 6 (by kernel_rfl) (by kernel_rfl) (by rfl) (by rfl) (by rfl) (by rfl) (fun K hK => ?_) (fun K hK => ?_)
  ·skip
   go_wp2_with (go_at_call 36; refine (refNew_v _).mono ?_; rintro e wn ⟨v9, rfl, o9, he⟩)
   refine hK.out _ _ (he) ?_
   clear hK K
   try simp only [pA, pB, pC, pD]
   have d9 := o9.v
   clear o9
   have hx := ext_trans hx he
   have b1 := b1.ext he
   try (have d9 := d9.ext he)
   try (have d11 := d11.ext he)
   try (have b2 := b2.ext he)
   clear he
   refine uS2 2 6 (by kernel_rfl) (by kernel_rfl) (by rfl) (by rfl) (by rfl) (by rfl) (fun K hK => ?_) (fun K hK => ?_)
   ·skip
    go_wp2_with (go_at_call 65; refine (rpPut_v (p := 2) (r := qR) (List.Subset.refl tD) (by decide) (Nat.zero_le _) d9 free_fine.ok (by decide) ⟨_, rfl, ByT.nil _ 0⟩).mono ?_; rintro e wp ⟨v11, q11, rfl, hq, d11, he⟩)
    refine hK.out _ _ (he) ?_
    clear hK K
    try simp only [pA, pB, pC, pD]
    obtain rfl : q11 = 0 := hq.out.trans q2E
    clear hq
    have hx := ext_trans hx he
    have b1 := b1.ext he
    try (have d9 := d9.ext he)
    try (have d11 := d11.ext he)
    try (have b2 := b2.ext he)
    clear he
    obtain ⟨A11, n11, c11, E11, m11, e11, rfl, _, _, _, _, _, _⟩ := d11.form
    apply uF 3 (by kernel_rfl) (by rfl) (by rfl) (by rfl)
    ·(intro w' hx; go_simp <;> with_reducible rfl)
    simp only [pA, pB, pC, pD]
    apply uF 4 (by kernel_rfl) (by rfl) (by rfl) (by rfl)
    ·(intro w' hx; go_simp <;> with_reducible rfl)
    simp only [pA, pB, pC, pD]
    apply uU 5 (by kernel_rfl) (by rfl) (by rfl)
    ·(intro w'; go_simp <;> with_reducible rfl)
    simp only [pA, pB, pC, pD]
    refine uS 6 (by kernel_rfl) (by kernel_rfl) (by rfl) (by rfl) (fun K hK => ?_)
    go_wp2
    refine hK.out _ _ (ext_alloc _ _) ?_
    clear hK K
    try simp only [pA, pB, pC, pD]
    obtain ⟨wc, hwc⟩ : ∃ wc, wc = wp := ⟨_, rfl⟩
    rw [← hwc] at hx b1 ⊢
    try rw [← hwc] at d9
    try rw [← hwc] at d11
    clear hwc
    have l2 := hx.size
    have l12 := b1.lt
    generalize hwn : World.alloc wc _ = wn
    have he : Ext wc wn := by rw [← hwn]; exact ext_alloc _ _
    have b2 : Box wn wc.heap.size 42 #[.slice none 0 0, .slice none 0 0] := by rw [← hwn]; exact Box.new _ _ _ (by simp)
    clear hwn
    have hx := ext_trans hx he
    have b1 := b1.ext he
    try (have d9 := d9.ext he)
    try (have d11 := d11.ext he)
    clear he
    refine uL 7 (by kernel_rfl) (by kernel_rfl) (by kernel_rfl) (by rfl) (by rfl) (fun K hK => ?_)
    have hK' := Lib.hid hK
    clear hK
    have k2 := b2.kd
    obtain ⟨b2_0, b2_1⟩ := b2.c2
    have b2_z := b2.free
    have b2_l := b2.lt
    go_wp2
    refine hK'.out _ _ ?_
    clear hK' K
    apply uU 8 (by kernel_rfl) (by rfl) (by rfl)
    ·(intro w'; go_simp <;> with_reducible rfl)
    simp only [pA, pB, pC, pD]
    refine uEnd (by kernel_rfl) ?_
    go_wp2_with fail
    go_meet
    exact ⟨⟨_, _, _, _, _, _, _, rfl, (b2.set 0 _).set 1 _, d11.kept (by (repeat (with_reducible (first | assumption | exact Kept.refl _ _ _ | (apply Kept.setK; rotate_left; (repeat (first | assumption | apply Kd.set | apply Kd.alloc | apply Kd.drew)); decide; omega) | refine Kept.allocK ?_ _ | refine Kept.drewK ?_))))⟩, rfl, by (repeat (with_reducible (first | assumption | refine Box.alloc ?_ _ | refine Box.setOther ?_ (by simp <;> omega) _))), by (repeat (with_reducible (first | assumption | exact Below.refl _ _ | refine Below.setCell ?_ (by simp <;> omega) _ | refine Below.alloc ?_ (by simp <;> omega) _ | refine Below.drew ?_ | refine below_drewN ?_ _)))⟩
   ·skip
    go_wp2
    refine hK.out _ _ (ext_alloc _ _) ?_
    clear hK K
    try simp only [pA, pB, pC, pD]
    obtain ⟨wc, hwc⟩ : ∃ wc, wc = wn := ⟨_, rfl⟩
    rw [← hwc] at hx b1 ⊢
    try rw [← hwc] at d9
    try rw [← hwc] at d11
    clear hwc
    have l2 := hx.size
    have l12 := b1.lt
    generalize hwn : World.alloc wc _ = wn
    have he : Ext wc wn := by rw [← hwn]; exact ext_alloc _ _
    have b2 : Box wn wc.heap.size 42 #[.slice none 0 0, .slice none 0 0] := by rw [← hwn]; exact Box.new _ _ _ (by simp)
    clear hwn
    have hx := ext_trans hx he
    have b1 := b1.ext he
    try (have d9 := d9.ext he)
    try (have d11 := d11.ext he)
    clear he
    refine uS 2 (by kernel_rfl) (by kernel_rfl) (by rfl) (by rfl) (fun K hK => ?_)
    go_wp2_with (go_at_call 65; refine (rpPut_v (p := 2) (r := qR) (List.Subset.refl tD) (by decide) (Nat.zero_le _) d9 free_fine.ok (by decide) ⟨_, rfl, ByT.nil _ 0⟩).mono ?_; rintro e wp ⟨v11, q11, rfl, hq, d11, he⟩)
    refine hK.out _ _ (he) ?_
    clear hK K
    try simp only [pA, pB, pC, pD]
    obtain rfl : q11 = 0 := hq.out.trans q2E
    clear hq
    have hx := ext_trans hx he
    have b1 := b1.ext he
    try (have d9 := d9.ext he)
    try (have d11 := d11.ext he)
    try (have b2 := b2.ext he)
    clear he
    obtain ⟨A11, n11, c11, E11, m11, e11, rfl, _, _, _, _, _, _⟩ := d11.form
    apply uF 3 (by kernel_rfl) (by rfl) (by rfl) (by rfl)
    ·(intro w' hx; go_simp <;> with_reducible rfl)
    simp only [pA, pB, pC, pD]
    apply uF 4 (by kernel_rfl) (by rfl) (by rfl) (by rfl)
    ·(intro w' hx; go_simp <;> with_reducible rfl)
    simp only [pA, pB, pC, pD]
    apply uU 5 (by kernel_rfl) (by rfl) (by rfl)
    ·(intro w'; go_simp <;> with_reducible rfl)
    simp only [pA, pB, pC, pD]
    refine uL 7 (by kernel_rfl) (by kernel_rfl) (by kernel_rfl) (by rfl) (by rfl) (fun K hK => ?_)
    have hK' := Lib.hid hK
    clear hK
    have k2 := b2.kd
    obtain ⟨b2_0, b2_1⟩ := b2.c2
    have b2_z := b2.free
    have b2_l := b2.lt
    go_wp2
    refine hK'.out _ _ ?_
    clear hK' K
    apply uU 8 (by kernel_rfl) (by rfl) (by rfl)
    ·(intro w'; go_simp <;> with_reducible rfl)
    simp only [pA, pB, pC, pD]
    refine uEnd (by kernel_rfl) ?_
    go_wp2_with fail
    go_meet
    exact ⟨⟨_, _, _, _, _, _, _, rfl, (b2.set 0 _).set 1 _, d11.kept (by (repeat (with_reducible (first | assumption | exact Kept.refl _ _ _ | (apply Kept.setK; rotate_left; (repeat (first | assumption | apply Kd.set | apply Kd.alloc | apply Kd.drew)); decide; omega) | refine Kept.allocK ?_ _ | refine Kept.drewK ?_))))⟩, rfl, by (repeat (with_reducible (first | assumption | refine Box.alloc ?_ _ | refine Box.setOther ?_ (by simp <;> omega) _))), by (repeat (with_reducible (first | assumption | exact Below.refl _ _ | refine Below.setCell ?_ (by simp <;> omega) _ | refine Below.alloc ?_ (by simp <;> omega) _ | refine Below.drew ?_ | refine below_drewN ?_ _)))⟩
  ·skip
   go_wp2
   refine hK.out _ _ (ext_alloc _ _) ?_
   clear hK K
   try simp only [pA, pB, pC, pD]
   obtain ⟨wc, hwc⟩ : ∃ wc, wc = D := ⟨_, rfl⟩
   rw [← hwc] at hx b1 ⊢
   try rw [← hwc] at d9
   try rw [← hwc] at d11
   clear hwc
   have l2 := hx.size
   have l12 := b1.lt
   generalize hwn : World.alloc wc _ = wn
   have he : Ext wc wn := by rw [← hwn]; exact ext_alloc _ _
   have b2 : Box wn wc.heap.size 42 #[.slice none 0 0, .slice none 0 0] := by rw [← hwn]; exact Box.new _ _ _ (by simp)
   clear hwn
   have hx := ext_trans hx he
   have b1 := b1.ext he
   try (have d9 := d9.ext he)
   try (have d11 := d11.ext he)
   clear he
   refine uS 0 (by kernel_rfl) (by kernel_rfl) (by rfl) (by rfl) (fun K hK => ?_)
   go_wp2_with (go_at_call 36; refine (refNew_v _).mono ?_; rintro e wn ⟨v9, rfl, o9, he⟩)
   refine hK.out _ _ (he) ?_
   clear hK K
   try simp only [pA, pB, pC, pD]
   have d9 := o9.v
   clear o9
   have hx := ext_trans hx he
   have b1 := b1.ext he
   try (have d9 := d9.ext he)
   try (have d11 := d11.ext he)
   try (have b2 := b2.ext he)
   clear he
   refine uS 2 (by kernel_rfl) (by kernel_rfl) (by rfl) (by rfl) (fun K hK => ?_)
   go_wp2_with (go_at_call 65; refine (rpPut_v (p := 2) (r := qR) (List.Subset.refl tD) (by decide) (Nat.zero_le _) d9 free_fine.ok (by decide) ⟨_, rfl, ByT.nil _ 0⟩).mono ?_; rintro e wp ⟨v11, q11, rfl, hq, d11, he⟩)
   refine hK.out _ _ (he) ?_
   clear hK K
   try simp only [pA, pB, pC, pD]
   obtain rfl : q11 = 0 := hq.out.trans q2E
   clear hq
   have hx := ext_trans hx he
   have b1 := b1.ext he
   try (have d9 := d9.ext he)
   try (have d11 := d11.ext he)
   try (have b2 := b2.ext he)
   clear he
   obtain ⟨A11, n11, c11, E11, m11, e11, rfl, _, _, _, _, _, _⟩ := d11.form
   apply uF 3 (by kernel_rfl) (by rfl) (by rfl) (by rfl)
   ·(intro w' hx; go_simp <;> with_reducible rfl)
   simp only [pA, pB, pC, pD]
   apply uF 4 (by kernel_rfl) (by rfl) (by rfl) (by rfl)
   ·(intro w' hx; go_simp <;> with_reducible rfl)
   simp only [pA, pB, pC, pD]
   apply uU 5 (by kernel_rfl) (by rfl) (by rfl)
   ·(intro w'; go_simp <;> with_reducible rfl)
   simp only [pA, pB, pC, pD]
   refine uL 7 (by kernel_rfl) (by kernel_rfl) (by kernel_rfl) (by rfl) (by rfl) (fun K hK => ?_)
   have hK' := Lib.hid hK
   clear hK
   have k2 := b2.kd
   obtain ⟨b2_0, b2_1⟩ := b2.c2
   have b2_z := b2.free
   have b2_l := b2.lt
   go_wp2
   refine hK'.out _ _ ?_
   clear hK' K
   apply uU 8 (by kernel_rfl) (by rfl) (by rfl)
   ·(intro w'; go_simp <;> with_reducible rfl)
   simp only [pA, pB, pC, pD]
   refine uEnd (by kernel_rfl) ?_
   go_wp2_with fail
   go_meet
   exact ⟨⟨_, _, _, _, _, _, _, rfl, (b2.set 0 _).set 1 _, d11.kept (by (repeat (with_reducible (first | assumption | exact Kept.refl _ _ _ | (apply Kept.setK; rotate_left; (repeat (first | assumption | apply Kd.set | apply Kd.alloc | apply Kd.drew)); decide; omega) | refine Kept.allocK ?_ _ | refine Kept.drewK ?_))))⟩, rfl, by (repeat (with_reducible (first | assumption | refine Box.alloc ?_ _ | refine Box.setOther ?_ (by simp <;> omega) _))), by (repeat (with_reducible (first | assumption | exact Below.refl _ _ | refine Below.setCell ?_ (by simp <;> omega) _ | refine Below.alloc ?_ (by simp <;> omega) _ | refine Below.drew ?_ | refine below_drewN ?_ _)))⟩
 case rest =>
  obtain ⟨⟨g2, A2, n2, c2, E2, m2, e2, rfl, b2, d2⟩, rfl, b1, hx⟩ := hcut
  clear b1
  obtain ⟨b2_0, b2_1⟩ := b2.c2
  have b2_z := b2.free
  have b2_l := b2.lt
  go_wp2_with fail
  refine (ixScan_v d2 q2F.ok).mono ?_
  rintro e3 w3 ⟨v3, rfl, own3, he⟩
  try clear b2_0 b2_1 b2_z b2_l b2_0 b2_1 b2_z b2_l b2_0 b2_1 b2_z b2_l b2_0 b2_1 b2_z b2_l
  have hx := ext_trans hx he
  have b2 := b2.ext he
  clear he
  clear d2 b2
  rw [q2S] at own3
  have r3 := own3.row (T := [74]) (base := 0) (by decide) (Nat.le_refl _)
  clear own3
  obtain ⟨A3, n3, c3, rfl, hc3, hm3, HN3⟩ := r3.form
  obtain rfl : n3 = 1 := HN3.out
  clear HN3
  go_wp2_with fail
  refine (ixAdd_v (e := eB) r3 (by decide) (by decide) ⟨_, rfl, ByT.nil _ 0⟩ (by decide)).mono ?_
  rintro e4 w4 ⟨v4, l4, rfl, hp, hs, own4, he⟩
  have hx := ext_trans hx he
  have r3 := r3.ext he
  clear he
  obtain rfl := ins2 hp hs
  clear hp hs
  have r4 := own4.row (T := [74]) (base := 0) (by decide) (Nat.le_refl _)
  clear own4
  obtain ⟨A4, n4, c4, rfl, hc4, hm4, HN4⟩ := r4.form
  obtain rfl : n4 = 2 := HN4.out
  clear HN4
  go_wp2_with fail
  refine (ixLast_v (key := 7) r4 small2).mono ?_
  rintro e5 w5 ⟨v5, b5, rfl, hf5, he⟩
  have hx := ext_trans hx he
  have r3 := r3.ext he
  have r4 := r4.ext he
  clear he
  obtain ⟨hb5, hv5⟩ := hf5
  rw [show iLast [eA, eB] 7 = some eB by decide] at hb5 hv5
  obtain rfl : b5 = true := hb5
  obtain ⟨A5, n5, c5, rfl, _, hy5⟩ := hv5.at_
  go_upto_region 6 with (fail)
  generalize hwn : World.alloc w5 _ = w6
  have he : Ext w5 w6 := by rw [← hwn]; exact ext_alloc _ _
  have b6 : Box w6 w5.heap.size 74 #[.int .i64 3, .int .i64 7, .int .i64 4, .slice A5 n5 c5, .int .i64 0] := by rw [← hwn]; exact Box.new _ _ _ (by simp)
  clear hwn hy5 hv5
  have hx := ext_trans hx he
  have r3 := r3.ext he
  have r4 := r4.ext he
  clear he
  go_wp2_with fail
  refine (ixFind_v (k := 7) (x := 3) r4 small2).mono ?_
  rintro e7 w7 ⟨v7, b7, rfl, hf7, he⟩
  have hx := ext_trans hx he
  have r3 := r3.ext he
  have r4 := r4.ext he
  have b6 := b6.ext he
  clear he
  obtain ⟨hb7, hv7⟩ := hf7
  rw [show iFind [eA, eB] 7 3 = some eA by decide] at hb7 hv7
  obtain rfl : b7 = true := hb7
  obtain ⟨A7, n7, c7, rfl, _, hy7⟩ := hv7.at_
  go_upto_region 7 with (fail)
  generalize hwn : World.alloc w7 _ = w8
  have he : Ext w7 w8 := by rw [← hwn]; exact ext_alloc _ _
  have b8 : Box w8 w7.heap.size 74 #[.int .i64 2, .int .i64 7, .int .i64 3, .slice A7 n7 c7, .int .i64 2] := by rw [← hwn]; exact Box.new _ _ _ (by simp)
  clear hwn hy7 hv7
  have hx := ext_trans hx he
  have r3 := r3.ext he
  have r4 := r4.ext he
  have b6 := b6.ext he
  clear he
  obtain ⟨g3, o3, u3, rfl, hg3, hu3, f3⟩ := r3.ent_x (i := 0) (by omega)
  obtain ⟨z0, z1, z2, z3, z4⟩ := f3 _ (Below.refl _ _)
  simp only [List.getD_cons_zero, eA] at z4
  clear z0 z1 z2 z3 f3
  obtain ⟨b6_0, b6_1, b6_2, b6_3, b6_4⟩ := b6.c5
  have b6_z := b6.free
  have b6_l := b6.lt
  obtain ⟨b8_0, b8_1, b8_2, b8_3, b8_4⟩ := b8.c5
  have b8_z := b8.free
  have b8_l := b8.lt
  go_wp2_with fail
  refine (ixFree_v (p := 6) r4 (by omega)).mono ?_
  rintro e9 w9 ⟨rfl, he⟩
  try clear b6_0 b6_1 b6_2 b6_3 b6_4 b6_z b6_l b8_0 b8_1 b8_2 b8_3 b8_4 b8_z b8_l
  have hx := ext_trans hx he
  have r4 := r4.ext he
  have b6 := b6.ext he
  have b8 := b8.ext he
  clear he
  rw [show iFree [eA, eB] 6 = 1 by decide]
  clear z4
  obtain ⟨b6_0, b6_1, b6_2, b6_3, b6_4⟩ := b6.c5
  have b6_z := b6.free
  have b6_l := b6.lt
  obtain ⟨b8_0, b8_1, b8_2, b8_3, b8_4⟩ := b8.c5
  have b8_z := b8.free
  have b8_l := b8.lt
  go_wp2_with fail
  refine (ixDrop_v (p := 2) r4 (by decide) small2).mono ?_
  rintro e10 w10 ⟨v10, rfl, own10, he⟩
  try clear b6_0 b6_1 b6_2 b6_3 b6_4 b6_z b6_l b8_0 b8_1 b8_2 b8_3 b8_4 b8_z b8_l
  have hx := ext_trans hx he
  have r4 := r4.ext he
  have b6 := b6.ext he
  have b8 := b8.ext he
  clear he
  obtain ⟨A10, n10, c10, rfl, _, _, HN10⟩ := own10.form
  obtain rfl : n10 = 1 := HN10.out.trans (by decide)
  clear HN10 own10
  go_wp2_with fail
  refine (ixOwn_v r4 (by decide) small2).mono ?_
  rintro e11 w11 ⟨v11, rfl, own11, he⟩
  have hx := ext_trans hx he
  clear he
  obtain ⟨A11, n11, c11, rfl, _, _, HN11⟩ := own11.form
  obtain rfl : n11 = 2 := HN11.out
  clear HN11 own11
  go_wp2_with fail
  go_ret
  exact ⟨rfl, hx⟩
end Go.Proofs.Ytpidjkadpnjahaa
/- The statement IndexBack: the walk of the law. -/
namespace Go.Proofs.Ytpidjkadpnjahaa
open Go Go.RowKit
theorem row_one {w : World} {base : Nat} {e : Ent} {u : Value} (h : ByT w base u e.rcd.data) : Row eEnt [74] (w.alloc (.cells (cE e u) 74)) base (.slice (some ⟨w.heap.size, 0, none⟩) 1 1) [e] := by
 refine OwnRow.row (rb := w.heap.size) (base := base) (OwnRow.shut5 (Nat.le_refl _) (Box.new w _ _ rfl) rfl (Nat.le_refl _) (by unfold maxLen; omega) rfl (fun i hi => ?_)) (by decide) (Nat.le_refl _)
 obtain rfl : i = 0 := by omega
 exact ⟨u, rfl, rfl, rfl, rfl, rfl, h.ext (ext_alloc _ _)⟩
theorem filter_len (p : Int → Bool) : ∀ l : List Int, l.length = (l.filter p).length + (l.filter fun x => !p x).length
 | [] => rfl
 | x :: l => by
  have := filter_len p l
  cases h : p x <;> simp [h] <;> omega
theorem nodup_len : ∀ (n : Nat) (l : List Int), l.Pairwise (· ≠ ·) → (∀ x ∈ l, 0 ≤ x ∧ x < n) → l.length ≤ n
 | 0, l, _, h => by
  cases l with
  | nil => simp
  | cons x l => have := h x (by simp); omega
 | n + 1, l, hp, h => by
  have h1 := nodup_len n (l.filter fun x => !decide (x = (n : Int))) (hp.filter _) (fun x hx => by
   rw [List.mem_filter] at hx
   have := h x hx.1
   have h2 : x ≠ n := by simpa using hx.2
   omega)
  have h2 : (l.filter fun x => decide (x = (n : Int))).length ≤ 1 := by
   have hp2 := hp.filter (fun x => decide (x = (n : Int)))
   have ha : ∀ x ∈ l.filter (fun x => decide (x = (n : Int))), x = n := fun x hx => by simpa using (List.mem_filter.1 hx).2
   generalize l.filter (fun x => decide (x = (n : Int))) = m at hp2 ha
   match m, hp2, ha with
   | [], _, _ => simp
   | [x], _, _ => simp
   | x :: y :: r, hp2, ha => exact absurd ((ha x (by simp)).trans (ha y (by simp)).symm) ((List.pairwise_cons.1 hp2).1 y (by simp))
  have h3 : l.length = (l.filter fun x => decide (x = (n : Int))).length + (l.filter fun x => !decide (x = (n : Int))).length := by
   exact filter_len _ l
  omega
theorem right_len {l : List Ent} (h : iRight l) : l.length ≤ 1001 := by
 have h1 := nodup_len 1001 (l.map (·.pair)) (by rw [List.pairwise_map]; exact h.2.2) (fun x hx => by
  obtain ⟨e, he, rfl⟩ := List.mem_map.1 hx
  have := (eOne_iff e).1 (h.1 e he)
  omega)
 simpa using h1
theorem right_small {l : List Ent} (h : iRight l) : ∀ e ∈ l, e.rcd.data.length ≤ 4096 := fun e he => by
 have := (rWrong_zero' ((eOne_iff e).1 (h.1 e he)).1).1
 omega
theorem right_single (e : Ent) : iRight [e] ↔ eOne e = true := ⟨fun h => h.1 e (by simp), fun h => ⟨by simpa using h, List.pairwise_singleton _ _, List.pairwise_singleton _ _⟩⟩
theorem esSame_id (l : List Ent) : esSame l l = true := by simp [esSame]
set_option maxRecDepth 100000 in
set_option maxHeartbeats 4000000 in
theorem indexBack_law (w : World) {v ev : Value} {l : List Ent} {e : Ent} (h : Row eEnt [] w w.heap.size v l) (hev : EntV w w.heap.size ev e) :
  Calls Try.prog 15 #[v, ev] w fun e' w' => e' = .returned (.bool true) ∧ Ext w w' := by
 obtain ⟨A, n, c, rfl, hc, hcm, HN⟩ := h.form
 obtain ⟨A0, n0, c0, rfl, _, hye⟩ := hev.at_
 clear hev
 unfold maxLen at hcm
 go_enter Try.func15, Try.ntmps15
 go_upto_region 1 with (fail)
 generalize hwn : World.alloc w _ = W
 have hx : Ext w W := by rw [← hwn]; exact ext_alloc _ _
 have b3 : Box W w.heap.size 74 #[.int .i64 e.rcd.kind, .int .i64 e.rcd.key, .int .i64 e.rcd.ver, .slice A0 n0 c0, .int .i64 e.pair] := by rw [← hwn]; exact Box.new _ _ _ rfl
 clear hwn
 have h := h.ext hx
 have hye := hye.ext hx
 go_wp2_with fail
 refine (alive5_w _).mono ?_
 rintro e0 w0 ⟨rfl, he⟩
 have hx := ext_trans hx he
 have h := h.ext he
 have hye := hye.ext he
 have b3 := b3.ext he
 clear he
 go_wp2_with fail
 refine (rightIndex_v h).mono ?_
 rintro e1 w1 ⟨r1, rfl, HR1, he⟩
 have hx := ext_trans hx he
 have h := h.ext he
 have hye := hye.ext he
 have b3 := b3.ext he
 clear he
 cases r1 with
 | false =>
  go_wp2_with fail
  go_ret
  exact ⟨rfl, hx⟩
 | true =>
  have HR := Lib.hid (HR1.out.1 rfl)
  clear HR1
  obtain ⟨b3_0, b3_1, b3_2, b3_3, b3_4⟩ := b3.c5
  have b3_z := b3.free
  have b3_l := b3.lt
  go_wp2_with fail
  refine (rightIndex_v (row_one hye)).mono ?_
  rintro e2 w2 ⟨r2, rfl, HR2, he⟩
  try clear b3_0 b3_1 b3_2 b3_3 b3_4 b3_z b3_l
  have he := ext_trans (ext_alloc _ _) he
  have hx := ext_trans hx he
  have h := h.ext he
  have hye := hye.ext he
  have b3 := b3.ext he
  clear he
  cases r2 with
  | false =>
   go_wp2_with fail
   go_ret
   exact ⟨rfl, hx⟩
  | true =>
   have HE := Lib.hid ((right_single e).1 (HR2.out.1 rfl))
   clear HR2
   have hl := right_len HR.out
   have HS := Lib.hid (right_small HR.out)
   go_wp2_with fail
   go_loopw [25] (fun i wr => ∃ a : Nat, a ≤ n ∧ i = .int .i64 a ∧ Hid (∀ j, j < a → (l.getD j ⟨rZero, 0⟩).pair ≠ e.pair ∧ ¬ ((l.getD j ⟨rZero, 0⟩).rcd.key = e.rcd.key ∧ (l.getD j ⟨rZero, 0⟩).rcd.ver = e.rcd.ver)) ∧ Ext w2 wr) (fun i _ => n - (intOf i).toNat)
   case atStart => exact ⟨0, by omega, rfl, fun j hj => (by omega), Below.refl _ _⟩
   case round =>
    obtain ⟨a, ha, rfl, HJ, hd⟩ := hrel
    have hx := ext_trans hx hd
    have b3 := b3.ext hd
    have hye := hye.ext hd
    by_cases hlt : a < n
    ·have i0 : (0 : Int) ≤ (a : Int) := by omega
     have i1 : (a : Int) < (n : Int) := by omega
     obtain ⟨g1, o1, u1, rfl, hg1, hu1, f1⟩ := h.ent_x hlt
     have HJ2 := Lib.hid (fun h0 j (hj : j < a + 1) => if hij : j = a then (by rw [hij]; exact h0 : (l.getD j ⟨rZero, 0⟩).pair ≠ e.pair ∧ ¬ ((l.getD j ⟨rZero, 0⟩).rcd.key = e.rcd.key ∧ (l.getD j ⟨rZero, 0⟩).rcd.ver = e.rcd.ver)) else HJ.out j (by omega))
     generalize l.getD a ⟨rZero, 0⟩ = x at f1 HJ2 hu1
     obtain ⟨A1, n1, c1, rfl, _, _⟩ := hu1.form
     obtain ⟨x0, x1, x2, x3, x4⟩ := f1 _ hd
     clear f1 hu1
     have lb := b3.lt
     obtain ⟨b3_0, b3_1, b3_2, b3_3, b3_4⟩ := b3.c5
     have b3_z := b3.free
     have b3_l := b3.lt
     by_cases k1 : x.pair = e.pair
     ·have q1 : (x.pair == e.pair) = true := by simpa using k1
      clear k1
      go_wp2_with fail
      go_ret
      exact ⟨rfl, hx.alloc hx.size _⟩
     ·have q1 : (x.pair == e.pair) = false := by simpa using k1
      have K1 := Lib.hid k1
      clear k1
      by_cases k2 : x.rcd.key = e.rcd.key
      ·have q2 : (x.rcd.key == e.rcd.key) = true := by simpa using k2
       have K2 := Lib.hid k2
       clear k2
       by_cases k3 : x.rcd.ver = e.rcd.ver
       ·have q3 : (x.rcd.ver == e.rcd.ver) = true := by simpa using k3
        clear k3
        go_wp2_with fail
        go_ret
        exact ⟨rfl, hx.alloc hx.size _⟩
       ·have q3 : (x.rcd.ver == e.rcd.ver) = false := by simpa using k3
        have K3 := Lib.hid k3
        clear k3
        go_wp2_with fail
        refine ⟨⟨a + 1, by omega, rfl, HJ2.out ⟨K1.out, fun hh => K3.out hh.2⟩, hd.alloc hd.size _⟩, ?_⟩
        simp only [intOf]
        omega
      ·have q2 : (x.rcd.key == e.rcd.key) = false := by simpa using k2
       have K2 := Lib.hid k2
       clear k2
       go_wp2_with fail
       refine ⟨⟨a + 1, by omega, rfl, HJ2.out ⟨K1.out, fun hh => K2.out hh.1⟩, hd.alloc hd.size _⟩, ?_⟩
       simp only [intOf]
       omega
    ·obtain rfl : a = n := by omega
     have each : ∀ x ∈ l, x.pair ≠ e.pair ∧ ¬ (x.rcd.key = e.rcd.key ∧ x.rcd.ver = e.rcd.ver) := fun x hx => by
      obtain ⟨j, hj, rfl⟩ := List.getElem_of_mem hx
      have := HJ.out j (by rw [HN.out]; exact hj)
      rwa [List.getD_eq_getElem?_getD, List.getElem?_eq_getElem hj] at this
     have HP := Lib.hid (fun x hx => (each x hx).1)
     have HK := Lib.hid (fun x hx => (each x hx).2)
     clear each
     have h := h.ext hd
     have hse : e.rcd.data.length ≤ 4096 := by have := (rWrong_zero' ((eOne_iff e).1 HE.out).1).1; omega
     obtain ⟨b3_0, b3_1, b3_2, b3_3, b3_4⟩ := b3.c5
     have b3_z := b3.free
     have b3_l := b3.lt
     go_wp2_with fail
     refine (ixAdd_v (e := e) h (by omega) HS.out ⟨_, rfl, hye⟩ hse).mono ?_
     rintro e4 w4 ⟨v4, l4, rfl, hp4, hs4, own4, he⟩
     try clear b3_0 b3_1 b3_2 b3_3 b3_4 b3_z b3_l b3_0 b3_1 b3_2 b3_3 b3_4 b3_z b3_l
     have hx := ext_trans hx he
     have h := h.ext he
     have hye := hye.ext he
     have b3 := b3.ext he
     clear he
     have hpp : (l ++ [e]).Pairwise fun a b => a.pair ≠ b.pair := by
      rw [List.pairwise_append]
      exact ⟨HR.out.2.2, List.pairwise_singleton _ _, fun a ha b hb => by rw [List.mem_singleton.1 hb]; exact HP.out a ha⟩
     obtain rfl : l4 = iIns l e := ins_unique hp4 HR.out.2.1 HP.out (sorted_strict hs4 (perm_pairs hp4 hpp))
     clear hp4 hs4 hpp
     have HRM := Lib.hid (iRight_ins HR.out HE.out HP.out)
     have HF := Lib.hid (iFind_ins HK.out)
     have HDR := Lib.hid (iDrop_ins HP.out)
     have hml : (iIns l e).length ≤ 4096 := by rw [iIns_length]; omega
     have HSM := Lib.hid (right_small HRM.out)
     have r4 := own4.row (T := [74]) (base := 0) (by decide) (Nat.le_refl _)
     clear own4
     generalize iIns l e = m at r4 HRM HF HDR hml HSM
     obtain ⟨A4, n4, c4, rfl, _, _, _⟩ := r4.form
     obtain ⟨b3_0, b3_1, b3_2, b3_3, b3_4⟩ := b3.c5
     have b3_z := b3.free
     have b3_l := b3.lt
     go_wp2_with fail
     refine (ixFind_v (k := e.rcd.key) (x := e.rcd.ver) r4 HSM.out).mono ?_
     rintro e5 w5 ⟨v5, b5, rfl, hf5, he⟩
     try clear b3_0 b3_1 b3_2 b3_3 b3_4 b3_z b3_l
     have hx := ext_trans hx he
     have h := h.ext he
     have hye := hye.ext he
     have b3 := b3.ext he
     have r4 := r4.ext he
     clear he
     obtain ⟨hb5, hv5⟩ := hf5
     rw [HF.out.1] at hb5 hv5
     obtain rfl : b5 = true := hb5
     obtain ⟨A5, n5, c5, rfl, _, hy5⟩ := hv5.at_
     simp only [Option.getD_some] at hy5
     clear hv5
     go_upto_region 13 with (fail)
     generalize hwn : World.alloc w5 _ = w6
     have he : Ext w5 w6 := by rw [← hwn]; exact ext_alloc _ _
     have b8 : Box w6 w5.heap.size 74 #[.int .i64 e.rcd.kind, .int .i64 e.rcd.key, .int .i64 e.rcd.ver, .slice A5 n5 c5, .int .i64 e.pair] := by rw [← hwn]; exact Box.new _ _ _ (by simp)
     clear hwn
     have hx := ext_trans hx he
     have h := h.ext he
     have hye := hye.ext he
     have b3 := b3.ext he
     have r4 := r4.ext he
     have hy5 := hy5.ext he
     clear he
     obtain ⟨b3_0, b3_1, b3_2, b3_3, b3_4⟩ := b3.c5
     have b3_z := b3.free
     have b3_l := b3.lt
     go_wp2_with fail
     refine (ixFind_v (k := e.rcd.key) (x := e.rcd.ver) h HS.out).mono ?_
     rintro e7 w7 ⟨v7, b7, rfl, hf7, he⟩
     try clear b3_0 b3_1 b3_2 b3_3 b3_4 b3_z b3_l
     have hx := ext_trans hx he
     have h := h.ext he
     have hye := hye.ext he
     have b3 := b3.ext he
     have r4 := r4.ext he
     have hy5 := hy5.ext he
     have b8 := b8.ext he
     clear he
     obtain ⟨hb7, hv7⟩ := hf7
     rw [HF.out.2] at hb7 hv7
     obtain rfl : b7 = false := hb7
     obtain ⟨A7, n7, c7, rfl, _, _⟩ := hv7.at_
     simp only [Option.getD_none]
     clear hv7
     go_upto_region 14 with (fail)
     generalize hwn : World.alloc w7 _ = w8
     have he : Ext w7 w8 := by rw [← hwn]; exact ext_alloc _ _
     clear hwn
     have hx := ext_trans hx he
     have h := h.ext he
     have hye := hye.ext he
     have b3 := b3.ext he
     have r4 := r4.ext he
     have hy5 := hy5.ext he
     have b8 := b8.ext he
     clear he
     go_wp2_with fail
     refine (rightIndex_v r4).mono ?_
     rintro e9 w9 ⟨r9, rfl, HR9, he⟩
     have hx := ext_trans hx he
     have h := h.ext he
     have hye := hye.ext he
     have b3 := b3.ext he
     have r4 := r4.ext he
     have hy5 := hy5.ext he
     have b8 := b8.ext he
     clear he
     obtain rfl : r9 = true := HR9.out.2 HRM.out
     clear HR9
     obtain ⟨b3_0, b3_1, b3_2, b3_3, b3_4⟩ := b3.c5
     have b3_z := b3.free
     have b3_l := b3.lt
     obtain ⟨b8_0, b8_1, b8_2, b8_3, b8_4⟩ := b8.c5
     have b8_z := b8.free
     have b8_l := b8.lt
     have R1 := row_one (w := w9) (base := w9.heap.size) (e := e) hy5.all
     have R2 := row_one (w := w9.alloc (.cells (cE e (.slice A5 n5 c5)) 74)) (base := (w9.alloc (.cells (cE e (.slice A5 n5 c5)) 74)).heap.size) (e := e) (hye.ext (ext_alloc _ _)).all
     have R1 := R1.ext (ext_alloc _ (.cells (cE e (.slice A0 n0 c0)) 74))
     rw [size_alloc] at R2
     go_wp2_with fail
     refine (sameEnts_v R1 R2).mono ?_
     rintro e10 w10 ⟨rfl, he⟩
     rw [esSame_id]
     try clear b3_0 b3_1 b3_2 b3_3 b3_4 b3_z b3_l b8_0 b8_1 b8_2 b8_3 b8_4 b8_z b8_l
     clear R1 R2
     have he := ext_trans (ext_trans (ext_alloc _ _) (ext_alloc _ _)) he
     have hx := ext_trans hx he
     have h := h.ext he
     have b3 := b3.ext he
     have r4 := r4.ext he
     clear he b8 hy5 hye
     obtain ⟨b3_0, b3_1, b3_2, b3_3, b3_4⟩ := b3.c5
     have b3_z := b3.free
     have b3_l := b3.lt
     go_wp2_with fail
     refine (ixDrop_v (p := e.pair) r4 hml HSM.out).mono ?_
     rintro e11 w11 ⟨v11, rfl, own11, he⟩
     try clear b3_0 b3_1 b3_2 b3_3 b3_4 b3_z b3_l
     have hx := ext_trans hx he
     have h := h.ext he
     clear he
     rw [HDR.out] at own11
     obtain ⟨A11, n11, c11, rfl, _, _, _⟩ := own11.form
     go_wp2_with fail
     refine (sameEnts_v (own11.row (T := [74]) (base := 0) (by decide) (Nat.le_refl _)) h).mono ?_
     rintro e12 w12 ⟨rfl, he⟩
     rw [esSame_id]
     go_wp2_with fail
     go_ret
     exact ⟨rfl, ext_trans hx he⟩
end Go.Proofs.Ytpidjkadpnjahaa
/- Plain: right disks and stores are small enough for the walks. -/
namespace Go.Proofs.Ytpidjkadpnjahaa
open Go Go.RowKit
theorem good_fine {x : Dsk} (h : dGood x) : Fine x 0 := by
 refine ⟨⟨by rw [h.len]; omega, by rw [h.late]; simp, fun i => ?_, fun i => by rw [h.late]; simp⟩, h.lateIn, by rw [h.late]; simp⟩
 rcases Nat.lt_or_ge i 12 with hi | hi
 ·rw [h.blk i hi]; omega
 ·rw [List.getD_eq_getElem?_getD, List.getElem?_eq_none (by rw [h.len]; exact hi)]
  simp
theorem good_right {x : Dsk} (h : dGood x) : dRight x = true := by
 have ha : x.blocks.all (fun b => decide (b.length = 16)) = true := by
  rw [List.all_eq_true]
  intro b hb
  obtain ⟨j, hj, e⟩ := List.getElem_of_mem hb
  have := h.blk j (by rw [← h.len]; exact hj)
  rw [List.getD_eq_getElem?_getD, List.getElem?_eq_getElem hj, Option.getD_some, e] at this
  simpa using this
 unfold dRight
 rw [ha, h.len, h.late]
 rfl
structure StoF (s : Sto) : Prop where
 disk : Fine s.disk 40
 len : s.index.length ≤ 4096
 small : ∀ e ∈ s.index, e.rcd.data.length ≤ 4096
theorem sGood.fine {s : Sto} (g : sGood s) : StoF s := ⟨(good_fine g.disk).le (by omega), by have := right_len g.right; omega, right_small g.right⟩
theorem tDS : tD ⊆ tS := by
 intro a h
 simp only [List.mem_cons, List.not_mem_nil, or_false] at h ⊢
 rcases h with h | h <;> simp [h]
theorem StoV.mk {T : List TypeId} {w : World} {base : Nat} {x y z : Value} {i : Int} {s : Sto} (hd : DskV T w base (.agg #[x, y]) s.disk) (hi : Row eEnt T w base z s.index) (hn : s.next = i) : StoV T w base (.agg #[x, y, z, .int .i64 i]) s := by
 obtain ⟨b, l, e, hb, hl⟩ := hd
 simp only [Value.agg.injEq, Array.mk.injEq, List.cons.injEq, and_true] at e
 obtain ⟨rfl, rfl⟩ := e
 exact ⟨_, _, _, by rw [hn], hb, hl, hi⟩
end Go.Proofs.Ytpidjkadpnjahaa
