/- Walks: scref6.Records; and what the document's Begin comes to. -/
import Derived.Test.YtmcgbdbhpnplmaaGreatA5
import Derived.Test.YtmcgbdbhpnplmaaGreatIt1
namespace Go.Proofs.YtmcgbdbhpnplmaaGreat
open Go Go.RowKit
def atTo (l : List Ent) (d : Ded) : Nat → Int
 | 0 => -1
 | a + 1 => if atTo l d a < 0 ∧ d.kind = 3 ∧ (l.getD a ⟨rZero, 0⟩).rcd.key = d.key ∧ (l.getD a ⟨rZero, 0⟩).rcd.ver = d.n then (l.getD a ⟨rZero, 0⟩).pair else atTo l d a
theorem atTo_find {l : List Ent} (h : iRight l) {d : Ded} (hk : d.kind = 3) : ∀ a : Nat, a ≤ l.length → atTo l d a = (((l.take a).find? fun e => decide (e.rcd.key = d.key) && decide (e.rcd.ver = d.n)).map (·.pair)).getD (-1)
 | 0, _ => rfl
 | a + 1, ha => by
  have ih := atTo_find h hk a (by omega)
  have hal : a < l.length := by omega
  rw [← Cs_getD hal, List.find?_append]
  unfold atTo
  rw [ih]
  cases hf : (l.take a).find? fun e => decide (e.rcd.key = d.key) && decide (e.rcd.ver = d.n) with
  | some e =>
   have h0 := (eOne_iff e).1 (h.1 e (List.mem_of_mem_take (List.mem_of_find?_eq_some hf)))
   have h1 : ¬ (e.pair < 0) := by omega
   simp [h1]
  | none =>
   simp only [Option.map_none, Option.getD_none, Option.none_or, hk, true_and]
   rw [List.find?_singleton]
   by_cases h1 : (l.getD a ⟨rZero, 0⟩).rcd.key = d.key ∧ (l.getD a ⟨rZero, 0⟩).rcd.ver = d.n
   ·rw [if_pos ⟨by omega, h1⟩, if_pos (by rw [decide_eq_true h1.1, decide_eq_true h1.2]; rfl)]
    rfl
   ·rw [if_neg (fun hh => h1 hh.2), if_neg (by simpa using h1)]
    rfl
theorem begin_wrong {s : Sto} {d : Ded} (h : mWrong d ≠ 0) : sBegin s d = (s, 0, mWrong d) := by unfold sBegin; rw [if_pos h]
theorem begin_no {s : Sto} {d : Ded} (h : mWrong d = 0) (h2 : (mDo (sRecs s) d).2.2 ≠ 0) : sBegin s d = (s, 0, (mDo (sRecs s) d).2.2) := by unfold sBegin; rw [if_neg (by simpa using h), if_pos h2]
theorem begin_take {s : Sto} {d : Ded} (g : sGood s) (h : mWrong d = 0) (h2 : (mDo (sRecs s) d).2.2 = 0) (hk : d.kind = 3) :
  sBegin s d = (⟨(pPut s.disk (atTo s.index d s.index.length) rFree).1, iDrop s.index (atTo s.index d s.index.length), s.next⟩, (mDo (sRecs s) d).2.1, 0) := by
 obtain ⟨e, he, hf, _, _⟩ := purge_found hk h2
 have ha := atTo_find g.right hk s.index.length (Nat.le_refl _)
 rw [List.take_length] at ha
 have hf' := hf
 unfold iFind at hf'
 rw [hf'] at ha
 simp only [Option.map_some, Option.getD_some] at ha
 unfold sBegin
 rw [if_neg (by simpa using h), if_neg (by simpa using h2), if_pos hk, hf, Option.getD_some, ha]
theorem begin_make {s : Sto} {d : Ded} (g : sGood s) (h : mWrong d = 0) (h2 : (mDo (sRecs s) d).2.2 = 0) (hk : d.kind ≠ 3) :
  sBegin s d = (⟨(pPut s.disk (iFree s.index 6) (mMade d (mDo (sRecs s) d).2.1)).1, iIns s.index ⟨mMade d (mDo (sRecs s) d).2.1, iFree s.index 6⟩, s.next⟩, (mDo (sRecs s) d).2.1, 0) ∧ 0 ≤ iFree s.index 6 ∧ iFree s.index 6 < 6 := by
 obtain ⟨a, _, _⟩ := mDo_made hk h2
 obtain ⟨f0, f1, _⟩ := free_found (l := s.index) 6 (by simpa [sRecs] using a)
 have h6 : (s.disk.blocks.length : Int) / 2 = 6 := by rw [g.disk.len]; rfl
 refine ⟨?_, f0, f1⟩
 unfold sBegin
 rw [if_neg (by simpa using h), if_neg (by simpa using h2), if_neg hk, h6, if_neg (by have : (0 : Int) ≤ iFree s.index 6 := f0; omega)]
theorem recs_step {l : List Ent} {a : Nat} (ha : a < l.length) : (l.take (a + 1)).map (fun e => e.rcd) = (l.take a).map (fun e => e.rcd) ++ [(l.getD a ⟨rZero, 0⟩).rcd] := by
 rw [← Cs_getD ha, List.map_append]
 rfl
theorem results_ctt {fn : Func} {p u r : Tmp} {ty : TypeId} (h : fn.results = #[.cell p ty, .tmp u, .tmp r]) (tmps : Array Value) (P : Program) (w : World) :
  (results fn tmps).run P w = ((asAddr (tmps.getD p undef)).run P w).andThen fun a w₁ => ((loadVar ty a).run P w₁).andThen fun x w₂ => .ok (.tuple #[x, tmps.getD u undef, tmps.getD r undef]) w₂ := by
 simp only [results, h]
 simp [Sem.run_bind, Result.andThen]
set_option maxRecDepth 100000 in
set_option maxHeartbeats 4000000 in
theorem refRecs_v {T : List TypeId} {base : Nat} {v : Value} {s : Sto} {w : World} (h : StoV T w base v s) (hl : s.index.length ≤ 4096) :
  Calls Tryz.prog 26 #[v] w fun e w' => ∃ v', e = .returned v' ∧ OwnRow eRec w' w.heap.size w.heap.size v' (sRecs s) ∧ Ext w w' := by
 obtain ⟨A, n, c, E, m, e, F, k, f, rfl, _, hi, _, _, HK, _, _, hkf⟩ := (h.all (T' := tS)).form
 obtain ⟨_, _, _, e0, _, hfm, _⟩ := hi.form
 cases e0
 unfold maxLen at hfm
 have HLL := Lib.hid hl
 have HRS := Lib.hid (show sRecs s = s.index.map fun e => e.rcd from rfl)
 generalize s.index = l at hi HK HLL HRS
 generalize s.next = sn
 clear h hl
 go_enter Tryz.func26, Tryz.ntmps26
 go_upto_region 2 with (fail)
 generalize hwn : World.alloc w _ = w1
 have hx : Ext w w1 := by rw [← hwn]; (repeat (with_reducible (first | assumption | exact Below.refl _ _ | refine Below.setCell ?_ (by simp <;> omega) _ | refine Below.alloc ?_ (by simp <;> omega) _ | refine Below.drew ?_ | refine below_drewN ?_ _)))
 have b1 : Box w1 w.heap.size 33 #[.slice A n c, .slice E m e, .slice F k f, .int .i64 sn] := by rw [← hwn]; exact Box.new _ _ _ rfl
 clear hwn
 have hz1 := hx.size
 obtain ⟨b1_0, b1_1, b1_2, b1_3⟩ := b1.c4
 have b1_z := b1.free
 have b1_l := b1.lt
 go_upto_region 3 with (fail)
 try clear b1_0 b1_1 b1_2 b1_3 b1_z b1_l
 clear b1
 go_loopw [3, 9] (fun v3 i wr => ∃ a : Nat, a ≤ k ∧ i = .int .i64 a ∧ OwnRow eRec wr w1.heap.size w.heap.size v3 ((l.take a).map (fun e => e.rcd)) ∧ Ext w1 wr) (fun _ i _ => k - (intOf i).toNat)
 case atStart => exact ⟨0, by omega, rfl, OwnRow.nil _ _ _ _, Below.refl _ _⟩
 case round =>
  obtain ⟨a, ha, rfl, own, hxd⟩ := hrel
  have hz := hxd.size
  by_cases hlt : a < k
  ·have i0 : (0 : Int) ≤ (a : Int) := by omega
   have i1 : (a : Int) < (k : Int) := by omega
   have hal : a < l.length := HK.out ▸ hlt
   obtain ⟨g1, o1, u1, rfl, hg1, hu1, f1⟩ := hi.ent_x hlt
   have HST := Lib.hid (recs_step hal)
   generalize l.getD a ⟨rZero, 0⟩ = x at f1 hu1 HST
   obtain ⟨AX, nx, cx, rfl, _, _⟩ := hu1.form
   have hxr := ext_trans hx hxd
   obtain ⟨x0, x1, x2, x3, x4⟩ := f1 _ hxr
   have hu1 := hu1.ext hxr
   clear f1 hg1 hxr
   go_upto_region 5 with (fail)
   generalize hwn : World.alloc wr _ = w3
   have he : Ext wr w3 := by rw [← hwn]; exact ext_alloc _ _
   have b5 : Box w3 wr.heap.size 54 (cE x (.slice AX nx cx)) := by rw [← hwn]; exact Box.new _ _ _ (by simp)
   clear hwn x0 x1 x2 x3 x4
   have hz3 := he.size
   have hxd := ext_trans hxd he
   have own := own.ext he
   have hu1 := hu1.ext he
   clear he
   have HL9 : Hid (((l.take a).map (fun e => e.rcd)).length + 1 ≤ lim) := Lib.hid (by
    have := HLL.out
    rw [List.length_map, List.length_take, lim_def]
    omega)
   obtain ⟨b5_0, b5_1, b5_2, b5_3, b5_4⟩ := b5.c5
   have b5_z := b5.free
   have b5_l := b5.lt
   go_upto_region 6 with (at_builtin; (refine wpl_rec rfl (.tmp 13) (.tmp 16) rfl rfl (own.ext (ext_alloc _ _)) rfl (Sl.new _ _ _ _ 4 1 rfl (by unfold maxLen; omega) (Nat.lt_succ_self _)) (y := x.rcd) ⟨_, rfl, hu1.ext (ext_alloc _ _)⟩ HL9.out (by rw [size_alloc]; omega) (by omega) ?_; intro v7 w7 own7 hg7 hb7))
   try clear b5_0 b5_1 b5_2 b5_3 b5_4 b5_z b5_l
   rw [← HST.out] at own7
   have hxd : Ext w1 w7 := (hxd.alloc hxd.size _).trans hb7
   go_wp2_with fail
   refine ⟨⟨a + 1, by omega, rfl, own7, hxd⟩, ?_⟩
   simp only [intOf]
   omega
  ·obtain rfl : a = k := by omega
   have hrs : (l.take a).map (fun e => e.rcd) = sRecs s := by rw [HRS.out, HK.out, List.take_length]
   rw [hrs] at own
   clear hrs
   go_wp2_with fail
   go_ret
   exact ⟨_, rfl, own.more hz1 (Nat.le_refl _), ext_trans hx hxd⟩
end Go.Proofs.YtmcgbdbhpnplmaaGreat
