/- Walks: slices.Backward of entries, ranged over; index.Last. -/
import Derived.RangeFuncNested
import Derived.RangeFuncBound
import Derived.RangeFuncCalls
import Derived.RangeFuncLeaves
import Derived.RangeFuncBox
import Derived.Shelf.Abstract
import Derived.Shelf.RegionOpen
import Derived.WalkKit
import Derived.OwnWalkIn
import Derived.TacticsInMore
import Derived.LoopNIn
import Derived.LoopIn
import Derived.Test.YthgdbblpbekieaaIx7
namespace Go.Proofs.Ythgdbblpbekieaa
open Go Go.RowKit Go.Shelf
attribute [local go_sem] Oper.semAt_some

abbrev entV (e : Ent) (q : Option Addr × Nat × Nat) : Value := .agg #[.int .i64 e.rcd.kind, .int .i64 e.rcd.key, .int .i64 e.rcd.ver, .slice q.1 q.2.1 q.2.2, .int .i64 e.pair]
/-- The entries of a row, each with its data's slice. -/
structure Elems (w : World) (base : Nat) (A : Option Addr) (n : Nat) (en : Nat → Ent) (q : Nat → Option Addr × Nat × Nat) : Prop where
 data : ∀ i, ByT w base (.slice (q i).1 (q i).2.1 (q i).2.2) (en i).rcd.data
 cells : ∀ i, i < n → ∃ b o, A = some ⟨b, o, none⟩ ∧ ∀ w', Ext w w' → w'.cell? ⟨b, o + i * 5, none⟩ = some (.int .i64 (en i).rcd.kind) ∧ w'.cell? ⟨b, o + i * 5 + 1, none⟩ = some (.int .i64 (en i).rcd.key) ∧
  w'.cell? ⟨b, o + i * 5 + 2, none⟩ = some (.int .i64 (en i).rcd.ver) ∧ w'.cell? ⟨b, o + i * 5 + 3, none⟩ = some (.slice (q i).1 (q i).2.1 (q i).2.2) ∧ w'.cell? ⟨b, o + i * 5 + 4, none⟩ = some (.int .i64 (en i).pair)
theorem Row.elems {T : List TypeId} {w : World} {base n c : Nat} {A : Option Addr} {l : List Ent} (h : Row eEnt T w base (.slice A n c) l) (hn : n = l.length) : ∃ q, Elems w base A n (fun i => l.getD i ⟨rZero, 0⟩) q := by
 have each : ∀ i, i < n → ∃ q : Option Addr × Nat × Nat, ByT w base (.slice q.1 q.2.1 q.2.2) (l.getD i ⟨rZero, 0⟩).rcd.data ∧ ∃ b o, A = some ⟨b, o, none⟩ ∧ ∀ w', Ext w w' → w'.cell? ⟨b, o + i * 5, none⟩ = some (.int .i64 (l.getD i ⟨rZero, 0⟩).rcd.kind) ∧ w'.cell? ⟨b, o + i * 5 + 1, none⟩ = some (.int .i64 (l.getD i ⟨rZero, 0⟩).rcd.key) ∧
  w'.cell? ⟨b, o + i * 5 + 2, none⟩ = some (.int .i64 (l.getD i ⟨rZero, 0⟩).rcd.ver) ∧ w'.cell? ⟨b, o + i * 5 + 3, none⟩ = some (.slice q.1 q.2.1 q.2.2) ∧ w'.cell? ⟨b, o + i * 5 + 4, none⟩ = some (.int .i64 (l.getD i ⟨rZero, 0⟩).pair) := by
  intro i hi
  obtain ⟨b, o, u, hA, _, hu, hc⟩ := h.ent_x hi
  obtain ⟨A', n', c', rfl, _⟩ := id hu
  exact ⟨(A', n', c'), hu, b, o, hA, hc⟩
 refine ⟨fun i => if h : i < n then Classical.choose (each i h) else (none, 0, 0), fun i => ?_, fun i hi => ?_⟩
 ·by_cases hi : i < n
  ·simp only [hi, dif_pos]
   exact (Classical.choose_spec (each i hi)).1
  ·simp only [hi, dif_neg, not_false_eq_true]
   rw [List.getD_eq_getElem?_getD, List.getElem?_eq_none (by omega)]
   exact ByT.nil _ _
 ·simp only [hi, dif_pos]
  exact (Classical.choose_spec (each i hi)).2

/-- What has come when k rounds are over: the last ones, the last one first. -/
def downto (n k : Nat) : List Nat := (List.range k).map fun j => n - 1 - j
theorem downto_succ (n k : Nat) : downto n (k + 1) = downto n k ++ [n - 1 - k] := by simp [downto, List.range_succ]
theorem downto_length (n k : Nat) : (downto n k).length = k := by simp [downto]

set_option maxRecDepth 100000 in
set_option maxHeartbeats 4000000 in
theorem back1_in (F : Fence) (m : Nat) (hf : F.fn 126) (hro : F.round = none) (hm : 1 ≤ m) (lp Bs : Nat) {w : World} {base n c : Nat} {A : Option Addr} {en : Nat → Ent} {q : Nat → Option Addr × Nat × Nat} (hE : Elems w base A n en q) (hc : n ≤ c) (hcm : c ≤ maxLen)
  (J Jx : List Nat → World → Prop)
  (hY : ∀ (pre : List Nat) (x : Nat) (W : World), J pre W → pre.length < n → YieldAt F (m - 1) Try.prog lp #[.int .i64 (x : Int), entV (en x) (q x)] W fun e W' =>
   (e = .returned (.bool true) ∧ J (pre ++ [x]) W' ∧ Below w.heap.size W W') ∨ (e = .returned (.bool false) ∧ Jx (pre ++ [x]) W'))
  (W : World) (hW : Ext w W) (hBs : w.cell? ⟨Bs, 0, none⟩ = some (.slice A n c)) (hBl : Bs < w.heap.size) (h0 : J [] W) :
  CallsIn F m Try.prog 126 #[.func (.yield lp) #[] #[], .pointer (some ⟨Bs, 0, none⟩)] W fun e W' => (∃ v, e = .returned v) ∧
   ((∃ ys, ys = downto n n ∧ J ys W') ∨ (∃ pre, (∃ k, k ≤ n ∧ pre = downto n k) ∧ Jx pre W')) := by
 refine callsIn_of_wp Try.func126 rfl hf ?_ hro
 simp only [Try.ntmps126, List.size_toArray, List.length_cons, List.length_nil, Nat.reduceAdd, Nat.reduceSub, Array.replicate_succ, Array.replicate_zero, List.push_toArray, List.append_toArray, List.nil_append, List.cons_append]
 unfold maxLen at hcm
 have hB0 := (hW.cell (p := ⟨Bs, 0, none⟩) hBl).trans hBs
 have hw1 : IntKind.i64.wrap ((n : Int) - 1) = (n : Int) - 1 := by rw [IntKind.wrap_i64]; omega
 gi_wp2
 clear hB0 hw1
 gi_loopw [3] (fun i wr => ∃ k : Nat, k ≤ n ∧ i = .int .i64 ((n : Int) - 1 - k) ∧ J (downto n k) wr ∧ Ext w wr) (fun i _ => ((intOf i) + 1).toNat)
 case atStart => exact ⟨0, Nat.zero_le _, by simp, h0, hW⟩
 case round =>
  obtain ⟨k, hk, rfl, hJs, hnx⟩ := hrel
  by_cases hlt : k < n
  ·obtain ⟨j, hj⟩ : ∃ j : Nat, n - 1 - k = j := ⟨_, rfl⟩
   have ej : (n : Int) - 1 - (k : Int) = (j : Int) := by omega
   have hjn : j < n := by omega
   obtain ⟨b, o, hA, hcell⟩ := hE.cells j hjn
   obtain ⟨c0, c1, c2, c3, c4⟩ := hcell _ hnx
   have hB0 := (hnx.cell (p := ⟨Bs, 0, none⟩) hBl).trans hBs
   have HD := downto_succ n k
   rw [hj] at HD
   obtain ⟨fn, tmps, assign, body, hy, hR⟩ := hY _ j wr hJs (by rw [downto_length]; exact hlt)
   subst hA
   rw [ej]
   have e0 : (0 : Int) ≤ (j : Int) := by omega
   have e1 : (j : Int) < (n : Int) := by omega
   have hw1 : IntKind.i64.wrap ((j : Int) - 1) = (j : Int) - 1 := by rw [IntKind.wrap_i64]; omega
   dsimp only [entV] at hy
   gi_wp2
   refine hR.mono ?_
   rintro e W3 (⟨rfl, hJ3, hk3⟩ | ⟨rfl, hJx3⟩)
   ·gi_wp2
    go_roundw
    case rel => exact ⟨k + 1, by omega, by rw [show (j : Int) - 1 = (n : Int) - 1 - ((k + 1 : Nat) : Int) by omega], by rw [HD]; exact hJ3, hnx.trans hk3⟩
    case measure => simp only [intOf]; omega
   ·gi_wp2
    refine bodyPost_ret (results_none rfl _ _ _) rfl ?_
    exact ⟨⟨_, rfl⟩, .inr ⟨_, ⟨k + 1, by omega, HD.symm⟩, hJx3⟩⟩
  ·obtain rfl : k = n := by omega
   have ej : (k : Int) - 1 - (k : Int) = -1 := by omega
   rw [ej]
   gi_wp2
   go_end0
   exact ⟨⟨_, rfl⟩, .inl ⟨_, rfl, hJs⟩⟩

set_option maxHeartbeats 1000000 in
theorem back_in (F : Fence) (m : Nat) (hf : F.fn 109) (hro : F.round = none) (A : Option Addr) (n c : Nat) (w : World) :
  CallsIn F m Try.prog 109 #[.slice A n c] w fun e w' => e = .returned (.func (.func 126) #[] #[.pointer (some ⟨w.heap.size, 0, none⟩)]) ∧ w' = w.alloc (.cells #[.slice A n c] 72) := by
 refine callsIn_of_wp Try.func109 rfl hf ?_ hro
 simp only [Try.ntmps109, List.size_toArray, List.length_cons, List.length_nil, Nat.reduceAdd, Nat.reduceSub, Array.replicate_succ, Array.replicate_zero, List.push_toArray, List.append_toArray, List.nil_append, List.cons_append]
 gi_wp2
 go_ret
 exact ⟨rfl, rfl⟩

theorem back_stops (F : Fence) (m : Nat) (hf : F.fn 126) (hro : F.round = none) (hm : 1 ≤ m) (Bs : Nat) {w : World} {base n c : Nat} {A : Option Addr} {en : Nat → Ent} {q : Nat → Option Addr × Nat × Nat} (hE : Elems w base A n en q) (hc : n ≤ c) (hcm : c ≤ maxLen)
  (hBs : w.cell? ⟨Bs, 0, none⟩ = some (.slice A n c)) (hBl : Bs < w.heap.size) :
  SeqStopsK F m Try.prog 126 #[.pointer (some ⟨Bs, 0, none⟩)] (fun x : Nat => #[Value.int .i64 (x : Int), entV (en x) (q x)]) (Below w.heap.size) (fun ys => ys = downto n n) (fun pre => ∃ k, k ≤ n ∧ pre = downto n k) n w :=
 fun lp J Jx W hW _ _ hY h0 => back1_in F m hf hro hm lp Bs hE hc hcm J Jx hY W hW hBs hBl h0

/-- A box of the call's own speaks of cells alone. -/
theorem box_own {β : Type} (B : Nat) (t : TypeId) (f : β → Array Value) : Own (fun s W => Box W B t (f s)) := fun _ X _ _ hs hg hrow =>
 (hg.block B hs.lt (fun e' => by obtain ⟨o, ho, hc⟩ := hrow B e'.symm; rw [show X.heap[B]? = _ from hs] at ho; cases ho; cases hc)).trans hs
theorem byt_own {β : Type} (f : β → Value) (d : β → List UInt8) : Own (fun s W => ByT W 0 (f s) (d s)) := fun _ X _ _ hs hg hrow =>
 hs.kept (T := []) (Kept.grown hg fun g e => ⟨Nat.zero_le _, fun cur t _ h => by obtain ⟨o, ho, hc⟩ := hrow g e; rw [h] at ho; cases ho; cases hc⟩)

abbrev zE : Array Value := #[.int .i64 0, .int .i64 0, .int .i64 0, .slice none 0 0, .int .i64 0]
abbrev cE (e : Ent) (u : Value) : Array Value := #[.int .i64 e.rcd.kind, .int .i64 e.rcd.key, .int .i64 e.rcd.ver, u, .int .i64 e.pair]
set_option maxRecDepth 100000 in
set_option maxHeartbeats 4000000 in
theorem last_in (w : World) {base n c : Nat} {A : Option Addr} {en : Nat → Ent} {q : Nat → Option Addr × Nat × Nat} {key : Int} (hE : Elems w base A n en q) (hc : n ≤ c) (hcm : c ≤ maxLen) (hs : ∀ i, (en i).rcd.data.length ≤ 4096) :
  CallsIn Fence.wide 3 Try.prog 70 #[.slice A n c, .int .i64 key] w fun e W' => ∃ v b o, e = .returned (.tuple #[v, .bool b]) ∧ FoundV W' v b o ∧ Ext w W' ∧
   ((o = none ∧ ∀ i, i < n → (en i).rcd.key ≠ key) ∨ ∃ i, i < n ∧ o = some (en i) ∧ (en i).rcd.key = key ∧ ∀ j, i < j → j < n → (en j).rcd.key ≠ key) := by
 refine callsIn_of_wp_marks Try.func70 rfl trivial ?_ rfl
 simp only [Try.ntmps70, List.size_toArray, List.length_cons, List.length_nil, Nat.reduceAdd, Nat.reduceSub, Array.replicate_succ, Array.replicate_zero, List.push_toArray, List.append_toArray, List.nil_append, List.cons_append]
 gi_wp2
 refine ⟨trivial, ?_⟩
 refine (back_in Fence.wide 2 trivial rfl _ _ _ _).mono ?_
 rintro e w' ⟨rfl, rfl⟩
 generalize hwn : World.alloc (World.alloc (World.alloc w _) _) _ = W1
 have hx1 : Ext w W1 := by rw [← hwn]; (repeat (with_reducible (first | assumption | exact Below.refl _ _ | refine Below.setCell ?_ (by simp <;> omega) _ | refine Below.alloc ?_ (by simp <;> omega) _ | refine Below.drew ?_ | refine below_drewN ?_ _)))
 have b3 : Box W1 w.heap.size 3 #[.int .i64 key] := by rw [← hwn]; exact ((Box.new _ _ _ rfl).alloc _).alloc _
 have b4 : Box W1 (w.heap.size + 1) 74 zE := by rw [← hwn]; exact (Box.new _ _ _ (by simp)).alloc _
 have b5 : Box W1 (w.heap.size + 1 + 1) 4 #[.bool false] := by rw [← hwn]; exact Box.new _ _ _ (by simp)
 clear hwn
 gi_wp2
 generalize hwn : World.alloc W1 _ = W0
 have he : Ext W1 W0 := by rw [← hwn]; exact ext_alloc _ _
 have bS : Box W0 W1.heap.size 72 #[.slice A n c] := by rw [← hwn]; exact Box.new _ _ _ rfl
 clear hwn
 have hx0 := ext_trans hx1 he
 have b3 := b3.ext he
 have b4 := b4.ext he
 have b5 := b5.ext he
 have hE0 : Elems W0 base A n en q := ⟨fun i => (hE.data i).ext hx0, fun i hi => by
  obtain ⟨b, o, h1, h2⟩ := hE.cells i hi
  exact ⟨b, o, h1, fun w' hw => h2 w' (ext_trans hx0 hw)⟩⟩
 have lw := hx0.size
 clear hx1 he
 refine wpIn_rangeFunc_ownH rfl (by omega) (gf := 126) (lb := #[.pointer (some ⟨W1.heap.size, 0, none⟩)]) rfl trivial (enters_of Try.func126 (by kernel_rfl) rfl)
  (back_stops Fence.wide 2 trivial rfl (by omega) W1.heap.size hE0 hc hcm bS.c1 bS.lt) belowK_t (belowK_b (Nat.le_refl _)) (Below.refl _ _) (fun _ => rfl)
  (fun pre W => ((Box W w.heap.size 3 #[.int .i64 key] ∧ Box W (w.heap.size + 1) 74 zE) ∧ Box W (w.heap.size + 1 + 1) 4 #[.bool false]) ∧ (∀ x ∈ pre, (en x).rcd.key ≠ key) ∧ Below W0.heap.size W0 W)
  (fun cd pre W => (cd = .ret ∧ ∃ ini last, pre = ini ++ [last] ∧ (∀ x ∈ ini, (en x).rcd.key ≠ key) ∧ (en last).rcd.key = key ∧ ∃ u, Box W (w.heap.size + 1) 74 (cE (en last) u) ∧ ByT W 0 u (en last).rcd.data ∧ Box W (w.heap.size + 1 + 1) 4 #[.bool true]) ∧ Below w.heap.size w W)
  (OwnFrom.and (OwnFrom.and (OwnFrom.and (Own.from (box_own _ _ _) _) (Own.from (box_own _ _ _) _)) (Own.from (box_own _ _ _) _)) (OwnFrom.and (ownFrom_pure _ _) (ownFrom_below (Nat.le_refl _) (Nat.le_refl _))))
  (fun cd => OwnFrom.and (Own.from (fun s X Y row hs hg hr => by
   obtain ⟨h1, ini, last, h2, h3, h4, u, h5, h6, h7⟩ := hs
   exact ⟨h1, ini, last, h2, h3, h4, u, box_own _ _ (fun (_ : Unit) => cE (en last) u) () X Y row h5 hg hr, byt_own (fun (_ : Unit) => u) (fun _ => (en last).rcd.data) () X Y row h6 hg hr, box_own _ _ (fun (_ : Unit) => #[.bool true]) () X Y row h7 hg hr⟩) _) (ownFrom_below (Nat.le_refl _) lw))
  ⟨⟨⟨b3, b4⟩, b5⟩, by simp, Below.refl _ _⟩
  (fun x a' W => ∃ Bx, W0.heap.size ≤ Bx ∧ Box W Bx 74 (cE (en x) (.slice (q x).1 (q x).2.1 (q x).2.2)) ∧ a' = { tmps := #[.slice A n c, .int .i64 key, undef, .pointer (some ⟨w.heap.size, 0, none⟩), .pointer (some ⟨w.heap.size + 1, 0, none⟩), .pointer (some ⟨w.heap.size + 1 + 1, 0, none⟩), undef, .pointer (some ⟨Bx, 0, none⟩), .slice A n c, .func (.func 126) #[] #[.pointer (some ⟨W1.heap.size, 0, none⟩)], .int .i64 (x : Int), entV (en x) (q x), undef, undef, undef, undef, undef, undef, undef, undef, undef, undef, undef, undef], defers := [] })
  (fun x a' _ X Y row hs hg hr => by obtain ⟨Bx, h1, h2, h3⟩ := hs; exact ⟨Bx, h1, box_own Bx _ (fun (_ : Unit) => cE (en x) (.slice (q x).1 (q x).2.1 (q x).2.2)) () X Y row h2 hg (fun r e => (hr r e).2), h3⟩)
  ?assign ?body ?done ?stop
 case assign =>
  rintro lp pre x W K ⟨⟨⟨i3, i4⟩, i5⟩, hno, hB⟩ hK
  gi_wp2
  exact hK _ _ ((KeepsOthers.alloc _ _).from _) ((Below.refl _ W).alloc hB.size _) ⟨⟨⟨i3.alloc _, i4.alloc _⟩, i5.alloc _⟩, hno, hB.alloc hB.size _⟩ ⟨W.heap.size, hB.size, Box.new W _ _ rfl, rfl⟩
 case body =>
  rintro lp pre x a' W hl ⟨r, hr⟩ ⟨⟨⟨i3, i4⟩, i5⟩, hno, hB⟩ ⟨Bx, hBx, bX, rfl⟩ hlt
  have hu := (hE0.data x).ext hB
  have hsx := hs x
  obtain ⟨e, hee⟩ : ∃ e, en x = e := ⟨_, rfl⟩
  rw [hee] at bX hu hsx ⊢
  have HEE := Lib.hid hee
  clear hee
  have k0 := i3.c1
  obtain ⟨x0, x1, x2, x3, x4⟩ := bX.c5
  by_cases hk : e.rcd.key = key
  ·have qk : (e.rcd.key == key) = true := by simpa using hk
   have HK := Lib.hid hk
   clear hk
   have mixed : Try.prog.follows .mixedOrders = true := by kernel_rfl
   have hcon : ∀ W', Ext W W' → Calls Try.prog 27 #[.agg #[.int .i64 e.rcd.kind, .int .i64 e.rcd.key, .int .i64 e.rcd.ver, .slice (q x).1 (q x).2.1 (q x).2.2]] W' fun e' w' => ∃ A3 n3 c3, e' = .returned (.agg #[.int .i64 e.rcd.kind, .int .i64 e.rcd.key, .int .i64 e.rcd.ver, .slice A3 n3 c3]) ∧ ByT w' 0 (.slice A3 n3 c3) e.rcd.data ∧ Ext W' w' := fun W' hw' =>
    (recOwn_v (r := e.rcd) ⟨_, rfl, hu.ext hw'⟩ hsx).mono fun e' w' ⟨v', he1, ⟨u, he2, h2⟩, he3⟩ => by
     obtain ⟨A3, n3, c3, rfl, _, _⟩ := h2.form
     exact ⟨A3, n3, c3, by rw [he1, he2], h2, he3⟩
   have HC := Lib.hid hcon
   have HB := Lib.hid (⟨i3, i4, i5⟩ : _ ∧ _ ∧ _)
   clear hcon hu
   gi_wp2
   gi_region_with_o ((refine ⟨trivial, ?_⟩); refine (CallsIn.inRound lp (callsIn_wide.2 (HC.out _ ((Below.refl _ _).drew)))).mono ?_; rintro e' w' ⟨A3, n3, c3, rfl, h3, he⟩; have hxe := (Below.refl W.heap.size W).drew.trans (he : Below W.heap.size W.drew w'); obtain ⟨z0, z1, z2, z3, z4⟩ := (bX.ext hxe).c5; obtain ⟨d0, d1, d2, d3, d4⟩ := (HB.out.2.1.ext hxe).c5; have d5 := (HB.out.2.1.ext hxe).free; have e0 := (HB.out.2.2.ext hxe).c1; have e1 := (HB.out.2.2.ext hxe).free)
   all_goals
    gi_wp2
    have kx : KeepsOthers W w' := ⟨hxe.size, fun k o hk _ => (hxe.block k (Array.getElem?_eq_some_iff.1 hk).1).trans hk⟩
    have n4 := HB.out.2.1.ext hxe
    have n5 := HB.out.2.2.ext hxe
    have k4 := n4.kd
    have k5 := n5.kd
    have hbw : Below w.heap.size w w' := ext_trans hx0 (ext_trans hB hxe)
    refine ⟨((((((kx.trans (KeepsOthers.setCell _ _ _)).trans (KeepsOthers.setCell _ _ _)).trans (KeepsOthers.setCell _ _ _)).trans (KeepsOthers.setCell _ _ _)).trans (KeepsOthers.setCell _ _ _)).trans (KeepsOthers.setCell _ _ _)).from _, ⟨rfl, pre, x, rfl, hno, by rw [HEE.out]; exact HK.out, .slice A3 n3 c3, ?_, ?_, ?_⟩, ?_⟩
    ·rw [HEE.out]
     refine Box.setOther ?_ (by simp) _
     exact ((((n4.set 0 _).set 1 _).set 2 _).set 3 _).set 4 _
    ·rw [HEE.out]
     exact h3.kept (T := []) (by (repeat (with_reducible (first | assumption | exact Kept.refl _ _ _ | (apply Kept.setK; rotate_left; (repeat (first | assumption | apply Kd.set | apply Kd.alloc | apply Kd.drew)); decide; omega) | refine Kept.allocK ?_ _ | refine Kept.drewK ?_))))
    ·refine Box.set (cs := #[.bool false]) ?_ 0 _
     (repeat (with_reducible (first | assumption | refine Box.alloc ?_ _ | refine Box.setOther ?_ (by simp <;> omega) _)))
    ·(repeat (with_reducible (first | assumption | exact Below.refl _ _ | refine Below.setCell ?_ (by simp <;> omega) _ | refine Below.alloc ?_ (by simp <;> omega) _ | refine Below.drew ?_ | refine below_drewN ?_ _)))
  ·have qk : (e.rcd.key == key) = false := by simpa using hk
   gi_wp2
   exact ⟨KeepsFrom.refl _ _, Below.refl _ _, ⟨⟨i3, i4⟩, i5⟩, fun y hy => (List.mem_append.1 hy).elim (hno y) (fun h => by rw [List.mem_singleton.1 h, HEE.out]; exact hk), hB⟩
 case done =>
  rintro D ys W hD rfl ⟨⟨⟨i3, i4⟩, i5⟩, hno, hB⟩ hK
  obtain ⟨d0, d1, d2, d3, d4⟩ := i4.c5
  have df := i4.free
  have e0 := i5.c1
  have e1 := i5.free
  gi_wp2
  generalize hwn : World.setCell (World.setCell (World.setCell (World.setCell (World.setCell (World.setCell W _ _) _ _) _ _) _ _) _ _) _ _ = W6
  have hbw : Below w.heap.size w W6 := by rw [← hwn]; have := ext_trans hx0 hB; (repeat (with_reducible (first | assumption | exact Below.refl _ _ | refine Below.setCell ?_ (by simp <;> omega) _ | refine Below.alloc ?_ (by simp <;> omega) _ | refine Below.drew ?_ | refine below_drewN ?_ _)))
  have n4 : Box W6 (w.heap.size + 1) 74 zE := by
   rw [← hwn]
   refine Box.setOther ?_ (by simp) _
   exact ((((i4.set 0 _).set 1 _).set 2 _).set 3 _).set 4 _
  have n5 : Box W6 (w.heap.size + 1 + 1) 4 #[.bool false] := by
   rw [← hwn]
   refine Box.set (cs := #[.bool false]) ?_ 0 _
   (repeat (with_reducible (first | assumption | refine Box.alloc ?_ _ | refine Box.setOther ?_ (by simp <;> omega) _)))
  have hK' : W6.heap[D]? = some (.deferred (some [])) := by
   rw [← hwn]
   exact ((((((KeepsOthers.setCell _ _ _).trans (KeepsOthers.setCell _ _ _)).trans (KeepsOthers.setCell _ _ _)).trans (KeepsOthers.setCell _ _ _)).trans (KeepsOthers.setCell _ _ _)).trans (KeepsOthers.setCell _ _ _)).same D _ hK rfl
  clear hwn
  refine ⟨by simp, .inl ⟨_, _, rfl, run_takeDeferred hK', ?_⟩⟩
  have m4 := box_own _ _ (fun (_ : Unit) => zE) () W6 _ (some D) n4 (grownBy_putObj' _ D (.deferred none)) (fun r e => by cases e; exact ⟨_, hK', rfl⟩)
  have m5 := box_own _ _ (fun (_ : Unit) => #[Value.bool false]) () W6 _ (some D) n5 (grownBy_putObj' _ D (.deferred none)) (fun r e => by cases e; exact ⟨_, hK', rfl⟩)
  obtain ⟨y0, y1, y2, y3, y4⟩ := m4.c5
  have z0 := m5.c1
  refine ⟨.tuple #[.agg zE, .bool false], ?_, _, _, none, rfl, ⟨rfl, ⟨_, rfl, ByT.nil _ _⟩⟩, hbw.trans (belowK_b (w := w) (Nat.le_refl _) W6 D _ _ (by omega) hK' rfl rfl), .inl ⟨rfl, fun i hi => hno i ?_⟩⟩
  ·simp [results, Try.f70, go_sem, y0, y1, y2, y3, y4, z0]
  ·simp only [downto, List.mem_map, List.mem_range]
   exact ⟨n - 1 - i, by omega, by omega⟩
 case stop =>
  rintro D cd pre W hD ⟨k, hk, rfl⟩ ⟨⟨rfl, ini, last, e1, e2, e3, u, h4, h6, h5⟩, hB⟩ hK
  gi_wp2
  refine ⟨by simp, .inl ⟨_, _, rfl, run_takeDeferred hK, ?_⟩⟩
  obtain ⟨k', rfl⟩ : ∃ k', k = k' + 1 := by
   cases k with
   | zero => simp [downto] at e1
   | succ k' => exact ⟨k', rfl⟩
  rw [downto_succ] at e1
  obtain ⟨rfl, e5⟩ := List.append_inj' e1 rfl
  obtain rfl : n - 1 - k' = last := by simpa using e5
  obtain ⟨A3, n3, c3, rfl, _, _⟩ := h6.form
  have m4 := box_own _ _ (fun (_ : Unit) => cE (en (n - 1 - k')) (.slice A3 n3 c3)) () W _ (some D) h4 (grownBy_putObj' _ D (.deferred none)) (fun r e => by cases e; exact ⟨_, hK, rfl⟩)
  have m5 := box_own _ _ (fun (_ : Unit) => #[Value.bool true]) () W _ (some D) h5 (grownBy_putObj' _ D (.deferred none)) (fun r e => by cases e; exact ⟨_, hK, rfl⟩)
  have m6 := byt_own (fun (_ : Unit) => Value.slice A3 n3 c3) (fun _ => (en (n - 1 - k')).rcd.data) () W _ (some D) h6 (grownBy_putObj' _ D (.deferred none)) (fun r e => by cases e; exact ⟨_, hK, rfl⟩)
  obtain ⟨y0, y1, y2, y3, y4⟩ := m4.c5
  have z0 := m5.c1
  refine ⟨.tuple #[.agg (cE (en (n - 1 - k')) (.slice A3 n3 c3)), .bool true], ?_, _, _, some (en (n - 1 - k')), rfl, ⟨rfl, ⟨_, rfl, m6⟩⟩, hB.trans (belowK_b (w := w) (Nat.le_refl _) W D _ _ (by omega) hK rfl rfl), .inr ⟨n - 1 - k', by omega, rfl, e3, fun j h1 h2 => e2 j ?_⟩⟩
  ·simp [results, Try.f70, go_sem, y0, y1, y2, y3, y4, z0]
  ·simp only [downto, List.mem_map, List.mem_range]
   exact ⟨n - 1 - j, by omega, by omega⟩

theorem iLast_none {l : List Ent} {k : Int} (h : ∀ i, i < l.length → (l.getD i ⟨rZero, 0⟩).rcd.key ≠ k) : iLast l k = none := by
 unfold iLast
 rw [List.find?_eq_none]
 intro x hx
 obtain ⟨i, hi, rfl⟩ := List.getElem_of_mem (List.mem_reverse.1 hx)
 have := h i hi
 rw [List.getD_eq_getElem?_getD, List.getElem?_eq_getElem hi] at this
 simpa using this
theorem iLast_some {l : List Ent} {k : Int} {i : Nat} (hi : i < l.length) (h : (l.getD i ⟨rZero, 0⟩).rcd.key = k) (h1 : ∀ j, i < j → j < l.length → (l.getD j ⟨rZero, 0⟩).rcd.key ≠ k) : iLast l k = some (l.getD i ⟨rZero, 0⟩) := by
 unfold iLast
 have e : l.reverse = (l.drop (i + 1)).reverse ++ (l.getD i ⟨rZero, 0⟩ :: (l.take i).reverse) := by
  conv => lhs; rw [← List.take_append_drop i l, drop_ent hi]
  simp
 rw [e, List.find?_append]
 have h0 : (l.drop (i + 1)).reverse.find? (fun e => decide (e.rcd.key = k)) = none := by
  rw [List.find?_eq_none]
  intro x hx
  obtain ⟨j, hj, rfl⟩ := List.getElem_of_mem (List.mem_reverse.1 hx)
  rw [List.length_drop] at hj
  have := h1 (i + 1 + j) (by omega) (by omega)
  rw [List.getD_eq_getElem?_getD, List.getElem?_eq_getElem (by omega)] at this
  simpa [List.getElem_drop] using this
 rw [h0, List.find?_cons_of_pos (by simpa using h)]
 rfl
theorem ixLast_v {T : List TypeId} {base : Nat} {u : Value} {l : List Ent} {key : Int} {w : World} (h : Row eEnt T w base u l) (hs : ∀ e ∈ l, e.rcd.data.length ≤ 4096) :
  Calls Try.prog 70 #[u, .int .i64 key] w fun e w' => ∃ v b, e = .returned (.tuple #[v, .bool b]) ∧ FoundV w' v b (iLast l key) ∧ Ext w w' := by
 obtain ⟨A, n, c, rfl, hc, hcm, HN⟩ := h.form
 obtain ⟨q, hE⟩ := h.elems HN.out
 refine (callsIn_wide.1 (last_in w (key := key) hE hc hcm (fun i => ?_))).mono ?_
 ·show (l.getD i ⟨rZero, 0⟩).rcd.data.length ≤ 4096
  rcases Nat.lt_or_ge i l.length with hi | hi
  ·exact hs _ (ent_mem hi)
  ·rw [List.getD_eq_getElem?_getD, List.getElem?_eq_none hi]
   simp [rZero]
 ·rintro e w' ⟨v, b, o, he, hf, hx, ho⟩
  refine ⟨v, b, he, ?_, hx⟩
  have hn := HN.out
  rcases ho with ⟨rfl, ho⟩ | ⟨i, hi, rfl, h1, h2⟩
  ·rw [iLast_none (fun i hi => ho i (by omega))]
   exact hf
  ·rw [iLast_some (by omega) h1 (fun j hij hj => h2 j hij (by omega))]
   exact hf
end Go.Proofs.Ythgdbblpbekieaa

