/- Rows of rows of records; walks: may.Lists, scref6.Lists. -/
import Derived.Test.YtdmnmfnmaccmoaaGreatDoorSc7
import Derived.Test.YtdmnmfnmaccmoaaGreatDoorG5
import Derived.Test.YtdmnmfnmaccmoaaGreatDoorG3
import Derived.ArgAppend
namespace Go.Proofs.YtdmnmfnmaccmoaaGreatDoor
open Go Go.RowKit
def RowR (w : World) (v : Value) (ls : List (List Rec)) : Prop :=
 ∃ A c vs, v = .slice A ls.length c ∧ Sl w w.heap.size 1 A ls.length c vs ∧ ∀ i, i < ls.length → Row eRec [] w w.heap.size (vs.getD i undef) (ls.getD i [])
section
variable {w w' : World} {v : Value} {ls : List (List Rec)}
theorem RowR.ext (h : RowR w v ls) (k : Ext w w') : RowR w' v ls := by
 obtain ⟨A, c, vs, e, hs, hr⟩ := h
 exact ⟨A, c, vs, e, (Sl.below hs k).more k.size, fun i hi => ((hr i hi).ext k).all⟩
theorem RowR.form (h : RowR w v ls) : ∃ A n c, v = .slice A n c ∧ n ≤ c ∧ c ≤ maxLen ∧ Hid (n = ls.length) := by
 obtain ⟨A, c, vs, e, hs, _⟩ := h
 exact ⟨A, _, c, e, hs.cap, hs.max, Lib.hid rfl⟩
theorem RowR.at_ {A : Option Addr} {n c : Nat} (h : RowR w (.slice A n c) ls) {i : Nat} (hi : i < n) :
  ∃ b o u, A = some ⟨b, o, none⟩ ∧ b < w.heap.size ∧ w.cell? ⟨b, o + i, none⟩ = some u ∧ Row eRec [] w w.heap.size u (ls.getD i []) := by
 obtain ⟨A', c', vs, e, hs, hr⟩ := h
 injection e with e1 e2 e3
 subst e1 e2 e3
 obtain ⟨b, o, hA, hb, hc⟩ := Sl.form hs (by omega) (by decide)
 have hl : i < vs.length := by have := hs.len; omega
 refine ⟨b, o, vs.getD i undef, hA, hb, hc i _ ?_, hr i hi⟩
 rw [List.getD_eq_getElem?_getD, List.getElem?_eq_getElem hl]
 rfl
theorem rowR_one {l : List Rec} (h : Row eRec [] w w.heap.size v l) : RowR (w.alloc (.cells #[v] 46)) (.slice (some ⟨w.heap.size, 0, none⟩) 1 1) [l] := by
 refine ⟨_, 1, [v], rfl, Sl.new w [v] _ _ 1 1 rfl (by unfold maxLen; decide) (by rw [size_alloc]; omega), fun i hi => ?_⟩
 have hi : i < 1 := hi
 obtain rfl : i = 0 := by omega
 exact (h.ext (ext_alloc _ _)).all
theorem rowR_two {v' : Value} {l l' : List Rec} (h : Row eRec [] w w.heap.size v l) (h' : Row eRec [] w w.heap.size v' l') : RowR (w.alloc (.cells #[v, v'] 46)) (.slice (some ⟨w.heap.size, 0, none⟩) 2 2) [l, l'] := by
 refine ⟨_, 2, [v, v'], rfl, Sl.new w [v, v'] _ _ 1 2 rfl (by unfold maxLen; decide) (by rw [size_alloc]; omega), fun i hi => ?_⟩
 have hi : i < 2 := hi
 rcases (by omega : i = 0 ∨ i = 1) with rfl | rfl
 ·exact (h.ext (ext_alloc _ _)).all
 ·exact (h'.ext (ext_alloc _ _)).all
theorem own_form {base e size n : Nat} {xs : List Value} (h : w.ownsRow base e size v n xs) : ∃ A c, v = .slice A n c := by
 rcases h.2 with ⟨hv, hn⟩ | ⟨g, cap, cur, hv, _⟩
 ·exact ⟨none, 0, by rw [hv, hn]⟩
 ·exact ⟨_, _, hv⟩
end
theorem info_rls : (Tryz.prog.info? 46).map (fun i => (i.zero, i.size, i.bytes)) = some (some (.slice none 0 0), 1, 24) := by kernel_rfl
section
variable {ops : Array Oper} {rest : List Oper} {o : Oper} {a : Act} {K : Act → World → Prop} {Q : Exit → Act → World → Prop} {E : Prop}
theorem wp_app_rls {w : World} (s x : Operand)
  (ho : o.op = .call { callee := .builtin .append, args := #[s, x], argTypes := #[81, 81] })
  (base : Nat) (v : Value) (n : Nat) (xs : List Value) (hs : a.eval s = v) (hown : w.ownsRow base 46 1 v n xs)
  (B : Nat) (A : Option Addr) (m c : Nat) (news : List Value) (hx : a.eval x = .slice A m c) (hr : Sl w B 1 A m c news) (h1 : ∀ u ∈ news, u.oneCell' = true)
  (hlim : n + m ≤ lim) (hbase : base ≤ w.heap.size)
  (h : ∀ v' w', w'.ownsRow base 46 1 v' (n + m) (xs ++ news) → w.grownBy w' v.ownBlock → Below base w w' → (v'.ownBlock = v.ownBlock ∨ v'.ownBlock = some w.heap.size) → K (a.put o.dst v') w') : o.wp Tryz.prog a w K Q := by
 obtain ⟨i0, hi, hz0, hz1, hz2⟩ := info_parts info_rls
 have hl := lim_def
 exact wp_app w s x 81 ho base 46 i0 _ 1 24 Tryz.underlying81 hi hz0 hz1 hz2 rfl (by decide) v n xs hs hown B A m c news hx hr h1 (by unfold maxLen; omega) (by omega) hbase h
theorem app_rls {w : World} (hgd : o.guard = none) (s x : Operand)
  (ho : o.op = .call { callee := .builtin .append, args := #[s, x], argTypes := #[81, 81] })
  (base : Nat) (v : Value) (n : Nat) (xs : List Value) (hs : a.eval s = v) (hown : w.ownsRow base 46 1 v n xs)
  (B : Nat) (A : Option Addr) (m c : Nat) (news : List Value) (hx : a.eval x = .slice A m c) (hr : Sl w B 1 A m c news) (h1 : ∀ u ∈ news, u.oneCell' = true)
  (hlim : n + m ≤ lim) (hbase : base ≤ w.heap.size)
  (h : ∀ v' w', w'.ownsRow base 46 1 v' (n + m) (xs ++ news) → w.grownBy w' v.ownBlock → Below base w w' → (v'.ownBlock = v.ownBlock ∨ v'.ownBlock = some w.heap.size) → wpList Tryz.prog ops Q rest (a.put o.dst v') w') : wpList Tryz.prog ops Q (o :: rest) a w :=
 wpList_plain hgd fun _ hK => wp_app_rls s x ho base v n xs hs hown B A m c news hx hr h1 hlim hbase fun v' w' h2 h3 h4 h5 => hK _ _ (h v' w' h2 h3 h4 h5)
end
set_option maxRecDepth 100000 in
set_option maxHeartbeats 4000000 in
theorem mayLists_v {T : List TypeId} {base base' : Nat} {v xv : Value} {l : List Rec} {x : Stp} {w : World} (h : Row eRec T w base v l) (hr : ∀ r ∈ l, rOne r = true) (hl : l.length ≤ 4096) (hs : StpV w base' xv x) :
  Calls Tryz.prog 30 #[v, xv] w fun e w' => ∃ v', e = .returned v' ∧ RowR w' v' (yLists l x) ∧ Ext w w' := by
 have h := h.all (T' := [])
 obtain ⟨A, n, c, rfl, _, _, _⟩ := h.form
 obtain ⟨A0, n0, c0, rfl, _, _⟩ := hs.at_
 have hd := hs.deed
 clear hs
 have HY := Lib.hid (show yLists l x = if (x.kind ≠ 1 ∧ x.kind ≠ 2) ∨ mWrong x.deed ≠ 0 then [l] else if (mDo l x.deed).2.2 ≠ 0 then [l] else if x.kind = 2 then [l, (mDo l x.deed).1] else [(mDo l x.deed).1] from rfl)
 go_enter Tryz.func30, Tryz.ntmps30
 go_upto_region 1 with (fail)
 generalize hwn : World.alloc w _ = w1
 have hx : Ext w w1 := by rw [← hwn]; exact ext_alloc _ _
 have b3 : Box w1 w.heap.size 39 #[.int .i64 x.kind, .int .i64 x.n, .int .i64 x.m, .int .i64 x.deed.kind, .int .i64 x.deed.key, .int .i64 x.deed.n, .slice A0 n0 c0] := by rw [← hwn]; exact Box.new _ _ _ rfl
 clear hwn
 have h := (h.ext hx).all (T' := [])
 have hd := hd.ext hx
 by_cases k1 : x.kind = 1
 ·have q1 : (x.kind != 1) = false := by simpa using k1
  have q2 : (x.kind == 2) = false := by rw [k1]; rfl
  have k1 := Lib.hid k1
  obtain ⟨b3_0, b3_1, b3_2, b3_3, b3_4, b3_5, b3_6⟩ := b3.c7
  have b3_z := b3.free
  have b3_l := b3.lt
  go_wp2_with fail
  refine (mWrong_v hd).mono ?_
  rintro e2 w2 ⟨rfl, he⟩
  try clear b3_0 b3_1 b3_2 b3_3 b3_4 b3_5 b3_6 b3_z b3_l
  have hx := ext_trans hx he
  have h := h.ext he
  have hd := hd.ext he
  have b3 := b3.ext he
  clear he
  by_cases hw : mWrong x.deed = 0
  ·have HW := Lib.hid hw
   have HY := Lib.hid (HY.out.trans (if_neg (fun hh => hh.elim (fun hh => hh.1 k1.out) (fun hh => hh hw))))
   have q5 : (mWrong x.deed != 0) = false := by simpa using hw
   clear hw
   obtain ⟨b3_0, b3_1, b3_2, b3_3, b3_4, b3_5, b3_6⟩ := b3.c7
   have b3_z := b3.free
   have b3_l := b3.lt
   go_wp2_with fail
   refine (mDo_d (h.all (T' := [])) hr hl (Nat.le_refl _) hd HW.out).mono ?_
   rintro e3 w3 ⟨v3, m3, q3, rfl, HM3, HQ3, o3, he⟩
   try clear b3_0 b3_1 b3_2 b3_3 b3_4 b3_5 b3_6 b3_z b3_l
   have hx := ext_trans hx he
   have h := h.ext he
   have b3 := b3.ext he
   clear he
   have r3 := (o3.row (T := [54]) (by decide) (Nat.le_refl _)).all (T' := [])
   clear o3 HM3 hd
   obtain ⟨A3, n3, c3, rfl, _, _, _⟩ := r3.form
   by_cases hq : q3 = 0
   ·have HD := Lib.hid (HY.out.trans (if_neg (by rw [← HQ3.out]; exact fun hh => hh hq)))
    have HD := Lib.hid (HD.out.trans (if_neg (by rw [k1.out]; omega)))
    have q6 : (q3 != 0) = false := by simpa using hq
    clear hq HY
    obtain ⟨b3_0, b3_1, b3_2, b3_3, b3_4, b3_5, b3_6⟩ := b3.c7
    have b3_z := b3.free
    have b3_l := b3.lt
    go_wp2_with fail
    try clear b3_0 b3_1 b3_2 b3_3 b3_4 b3_5 b3_6 b3_z b3_l
    go_ret
    exact ⟨_, rfl, by rw [HD.out]; exact rowR_one r3.all, hx.alloc hx.size _⟩
   ·have HD := Lib.hid (HY.out.trans (if_pos (by rw [← HQ3.out]; exact hq)))
    have q6 : (q3 != 0) = true := by simpa using hq
    clear hq HY r3
    go_wp2_with fail
    go_ret
    exact ⟨_, rfl, by rw [HD.out]; exact rowR_one h.all, hx.alloc hx.size _⟩
  ·have HD := Lib.hid (HY.out.trans (if_pos (.inr hw)))
   have q5 : (mWrong x.deed != 0) = true := by simpa using hw
   clear hw HY
   go_wp2_with fail
   go_ret
   exact ⟨_, rfl, by rw [HD.out]; exact rowR_one h.all, hx.alloc hx.size _⟩
 ·have q1 : (x.kind != 1) = true := by simpa using k1
  by_cases k2 : x.kind = 2
  ·have q2 : (x.kind != 2) = false := by simpa using k2
   have q3 : (x.kind == 2) = true := by simpa using k2
   have k2 := Lib.hid k2
   clear k1
   obtain ⟨b3_0, b3_1, b3_2, b3_3, b3_4, b3_5, b3_6⟩ := b3.c7
   have b3_z := b3.free
   have b3_l := b3.lt
   go_wp2_with fail
   refine (mWrong_v hd).mono ?_
   rintro e2 w2 ⟨rfl, he⟩
   try clear b3_0 b3_1 b3_2 b3_3 b3_4 b3_5 b3_6 b3_z b3_l
   have hx := ext_trans hx he
   have h := h.ext he
   have hd := hd.ext he
   have b3 := b3.ext he
   clear he
   by_cases hw : mWrong x.deed = 0
   ·have HW := Lib.hid hw
    have HY := Lib.hid (HY.out.trans (if_neg (fun hh => hh.elim (fun hh => hh.2 k2.out) (fun hh => hh hw))))
    have q5 : (mWrong x.deed != 0) = false := by simpa using hw
    clear hw
    obtain ⟨b3_0, b3_1, b3_2, b3_3, b3_4, b3_5, b3_6⟩ := b3.c7
    have b3_z := b3.free
    have b3_l := b3.lt
    go_wp2_with fail
    refine (mDo_d (h.all (T' := [])) hr hl (Nat.le_refl _) hd HW.out).mono ?_
    rintro e3 w3 ⟨v3, m3, q3, rfl, HM3, HQ3, o3, he⟩
    try clear b3_0 b3_1 b3_2 b3_3 b3_4 b3_5 b3_6 b3_z b3_l
    have hx := ext_trans hx he
    have h := h.ext he
    have b3 := b3.ext he
    clear he
    have r3 := (o3.row (T := [54]) (by decide) (Nat.le_refl _)).all (T' := [])
    clear o3 HM3 hd
    obtain ⟨A3, n3, c3, rfl, _, _, _⟩ := r3.form
    by_cases hq : q3 = 0
    ·have HD := Lib.hid (HY.out.trans (if_neg (by rw [← HQ3.out]; exact fun hh => hh hq)))
     have HD := Lib.hid (HD.out.trans (if_pos k2.out))
     have q6 : (q3 != 0) = false := by simpa using hq
     clear hq HY
     obtain ⟨b3_0, b3_1, b3_2, b3_3, b3_4, b3_5, b3_6⟩ := b3.c7
     have b3_z := b3.free
     have b3_l := b3.lt
     go_wp2_with fail
     try clear b3_0 b3_1 b3_2 b3_3 b3_4 b3_5 b3_6 b3_z b3_l
     go_ret
     exact ⟨_, rfl, by rw [HD.out]; exact rowR_two h.all r3.all, hx.alloc hx.size _⟩
    ·have HD := Lib.hid (HY.out.trans (if_pos (by rw [← HQ3.out]; exact hq)))
     have q6 : (q3 != 0) = true := by simpa using hq
     clear hq HY r3
     go_wp2_with fail
     go_ret
     exact ⟨_, rfl, by rw [HD.out]; exact rowR_one h.all, hx.alloc hx.size _⟩
   ·have HD := Lib.hid (HY.out.trans (if_pos (.inr hw)))
    have q5 : (mWrong x.deed != 0) = true := by simpa using hw
    clear hw HY
    go_wp2_with fail
    go_ret
    exact ⟨_, rfl, by rw [HD.out]; exact rowR_one h.all, hx.alloc hx.size _⟩
  ·have HD := Lib.hid (HY.out.trans (if_pos (.inl ⟨k1, k2⟩)))
   have q2 : (x.kind != 2) = true := by simpa using k2
   clear k1 k2 HY
   obtain ⟨b3_0, b3_1, b3_2, b3_3, b3_4, b3_5, b3_6⟩ := b3.c7
   have b3_z := b3.free
   have b3_l := b3.lt
   go_wp2_with fail
   try clear b3_0 b3_1 b3_2 b3_3 b3_4 b3_5 b3_6 b3_z b3_l
   go_ret
   exact ⟨_, rfl, by rw [HD.out]; exact rowR_one h.all, hx.alloc hx.size _⟩
theorem own_rowR {w : World} {base n : Nat} {v : Value} {vs : List Value} {ls : List (List Rec)} (h : w.ownsRow base 46 1 v n vs) (hn : n = ls.length) (hr : ∀ i, i < ls.length → Row eRec [] w w.heap.size (vs.getD i undef) (ls.getD i [])) : RowR w v ls := by
 subst hn
 obtain ⟨A, c, rfl⟩ := own_form h
 exact ⟨A, c, vs, rfl, Sl.of_own h, hr⟩
theorem RowR.tail {w : World} {A : Option Addr} {n c : Nat} {l : List Rec} {ls : List (List Rec)} (h : RowR w (.slice A n c) (l :: ls)) : RowR w (.slice (if c = 1 then A else A.map (·.add 1)) (n - 1) (c - 1)) ls := by
 obtain ⟨A', c', vs, e, hs, hr⟩ := h
 injection e with e1 e2 e3
 subst e1 e2 e3
 have hc := Sl.cut hs (k := 1) (by rw [List.length_cons]; omega)
 refine ⟨_, _, vs.drop 1, rfl, hc, fun i hi => ?_⟩
 have := hr (i + 1) (by rw [List.length_cons]; omega)
 rw [getD_drop, Nat.add_comm 1 i]
 exact this
end Go.Proofs.YtdmnmfnmaccmoaaGreatDoor
