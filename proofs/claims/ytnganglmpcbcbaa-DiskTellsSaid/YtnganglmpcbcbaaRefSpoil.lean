/- Walks: the document's Spoil. -/
import Derived.Test.YtnganglmpcbcbaaDskSpoil
import Derived.Deep.Cut
import Derived.Deep.CutRange
namespace Go.Proofs.Ytnganglmpcbcbaa
open Go Go.RowKit

theorem and_255 (y : Int) : bits .and .i64 y 255 = y % 256 := by
  show IntKind.i64.wrap ((BitVec.ofInt 64 y &&& BitVec.ofInt 64 255).toNat : Int) = _
  have h : (BitVec.ofInt 64 y &&& BitVec.ofInt 64 255).toNat = (y % 256).toNat := by
    rw [BitVec.toNat_and, show (BitVec.ofInt 64 255).toNat = 2 ^ 8 - 1 from rfl, Nat.and_two_pow_sub_one_eq_mod, BitVec.toNat_ofInt]
    omega
  rw [h, IntKind.wrap_i64]
  omega
theorem xor_i64 (a : UInt8) (y : Int) : bits .xor .i64 (a.toNat : Int) (y % 256) = ((a ^^^ b8 y).toNat : Int) := by
  have e : y % 256 = ((b8 y).toNat : Int) := by rw [b8_toNat]; omega
  rw [e]
  generalize b8 y = c
  show IntKind.i64.wrap ((BitVec.ofInt 64 (a.toNat : Int) ^^^ BitVec.ofInt 64 (c.toNat : Int)).toNat : Int) = _
  rw [BitVec.toNat_xor, ofInt_i64 _ (by have := a.toNat_lt; omega), ofInt_i64 _ (by have := c.toNat_lt; omega), ← UInt8.toNat_xor, IntKind.wrap_i64]
  have := (a ^^^ c).toNat_lt
  omega
theorem u8s_get (l : List UInt8) (i : Nat) (h : i < l.length) : (u8s l)[i]? = some (.int .u8 ((l.getD i 0).toNat : Int)) := by
  rw [u8s_at, List.getD_eq_getElem?_getD, List.getElem?_eq_getElem h]
  rfl
/-- The first so many blocks, one byte of one of them turned. -/
def spTo (d : Dsk) (k n y : Int) (a : Nat) : List (List UInt8) := (List.range a).map fun i : Nat => (dSpoil d k n y).blocks.getD i []
theorem spTo_succ (d : Dsk) (k n y : Int) (a : Nat) : spTo d k n y (a + 1) = spTo d k n y a ++ [(dSpoil d k n y).blocks.getD a []] := by
  unfold spTo
  rw [List.range_succ, List.map_append]
  rfl
theorem spTo_length (d : Dsk) (k n y : Int) (a : Nat) : (spTo d k n y a).length = a := by simp [spTo]
theorem dSpoil_length (d : Dsk) (k n y : Int) : (dSpoil d k n y).blocks.length = d.blocks.length := by unfold dSpoil; split <;> simp
theorem spTo_all (d : Dsk) (k n y : Int) : (⟨spTo d k n y d.blocks.length, d.late⟩ : Dsk) = dSpoil d k n y := by
  have e : (dSpoil d k n y).late = d.late := by unfold dSpoil; split <;> rfl
  have hl := dSpoil_length d k n y
  unfold spTo
  generalize dSpoil d k n y = s at e hl ⊢
  obtain ⟨bs, ls⟩ := s
  simp only at e hl
  subst e
  congr 1
  refine list_ext_getD [] (by simp [hl]) fun i hi => ?_
  simp at hi
  simp [List.getD_eq_getElem?_getD, List.getElem?_map, List.getElem?_range hi]
theorem dSpoil_hit (d : Dsk) (a i : Nat) (y : Int) (ha : a < d.blocks.length) (hi : i < (d.blocks.getD a []).length) : (dSpoil d a i y).blocks.getD a [] = (d.blocks.getD a []).set i ((d.blocks.getD a []).getD i 0 ^^^ b8 y) := by
  unfold dSpoil
  rw [if_pos ⟨by omega, by omega, by omega, by rw [Int.toNat_natCast]; omega⟩]
  simp only [Int.toNat_natCast]
  rw [getD_set, if_pos ⟨rfl, ha⟩]
theorem dSpoil_miss (d : Dsk) (k n y : Int) (a : Nat) (h : ¬ ((a : Int) = k ∧ 0 ≤ n ∧ n < (d.blocks.getD a []).length)) : (dSpoil d k n y).blocks.getD a [] = d.blocks.getD a [] := by
  unfold dSpoil
  split
  · rename_i hc
    simp only
    rw [getD_set]
    split
    · rename_i he
      exfalso
      obtain ⟨h1, h2, h3, h4⟩ := hc
      have e : k.toNat = a := he.1
      rw [e] at h4
      exact h ⟨by omega, h3, h4⟩
    · rfl
  · rfl

set_option maxRecDepth 100000 in
set_option maxHeartbeats 4000000 in
theorem refSpoil_v {T : List TypeId} {base : Nat} {v : Value} {d : Dsk} {k n y : Int} {w : World} (hT : tD ⊆ T) (hbase : base ≤ w.heap.size) (h : DskV T w base v d) (hk : DskOk d) :
    Calls Try.prog 59 #[v, .int .i64 k, .int .i64 n, .int .i64 y] w fun e w' => ∃ v', e = .returned v' ∧ DskV T w' base v' (dSpoil d k n y) ∧ Ext w w' := by
  obtain ⟨A, m, c, E, e, f, rfl, HN, HE, hb, hl, hmc, hef⟩ := h.form
  have hm4 : m ≤ 4096 := by have := hk.blocks; have := HN.out; omega
  have HT := Lib.hid hT
  have Hk := Lib.hid hk
  have HF : Hid (dSpoil d k n y = ⟨spTo d k n y m, d.late⟩) := by show _ = _; rw [HN.out, spTo_all]
  clear hk hT h
  go_enter Try.func59, Try.ntmps59
  go_wp2_with fail
  obtain ⟨W, hW⟩ : ∃ W, W = ((w.alloc (.cells #[.slice A m c, .slice E e f] 46)).alloc (.cells #[.slice none 0 0, .slice none 0 0] 46)).alloc (.cells #[.slice none 0 0, .slice E e f] 46) := ⟨_, rfl⟩
  rw [← hW]
  have bp : Box W w.heap.size 46 #[.slice A m c, .slice E e f] := by rw [hW]; exact ((Box.new w _ _ rfl).alloc _).alloc _
  have bR : Box W (w.heap.size + 1) 46 #[.slice none 0 0, .slice none 0 0] := by rw [hW]; exact (Box.new _ _ _ (size_alloc _ _).symm).alloc _
  have b3 : Box W (w.heap.size + 2) 46 #[.slice none 0 0, .slice E e f] := by rw [hW]; exact Box.new _ _ _ (by simp)
  have hwW : Ext w W := by rw [hW]; exact ext_trans (ext_trans (ext_alloc _ _) (ext_alloc _ _)) (ext_alloc _ _)
  have hzW : W.heap.size = w.heap.size + 3 := by rw [hW]; simp
  clear hW
  go_loopw [10, 11, 18] (fun t10 t11 i wr => ∃ (a : Nat) (p q u : Value), a ≤ m ∧ i = .int .i64 a ∧ t10 = p ∧ t11 = q ∧ Box wr (w.heap.size + 2) 46 #[u, .slice E e f] ∧ OwnRow eBlk wr (w.heap.size + 3) base u (spTo d k n y a) ∧ Below (w.heap.size + 2) W wr) (fun _ _ i _ => m - (intOf i).toNat)
  case atStart => exact ⟨0, _, _, _, by omega, rfl, rfl, rfl, b3, OwnRow.nil _ _ _ _, Below.refl _ _⟩
  case round =>
    obtain ⟨a, p, q, u, ha, rfl, rfl, rfl, b3r, ownr, hd⟩ := hrel
    have hzr := hd.size
    have bRr := bR.below hd (by omega)
    have hx : Ext w wr := hwW.trans (hd.mono (by omega))
    by_cases hlt : a < m
    · have e0 : (0 : Int) ≤ (a : Int) := by omega
      have e1 : (a : Int) < (m : Int) := by omega
      have hS := Lib.hid (spTo_succ d k n y a)
      obtain ⟨b', o', u2, rfl, hb', ck, hy2⟩ := (hb.ext hx).blk_at hlt
      obtain ⟨A2, nu, cu, rfl, hby2, HL2⟩ := hy2.form
      obtain ⟨Au, n9, c9, rfl, _, _, HL⟩ := ownr.form
      have hlen : (spTo d k n y a).length + 1 ≤ lim := by rw [spTo_length, lim_def]; omega
      have hlt3 : w.heap.size + 2 < wr.heap.size := by omega
      have hnu : nu ≤ 4096 := by have := Hk.out.block a; have := HL2.out; omega
      by_cases hc : (a : Int) = k ∧ 0 ≤ n ∧ n < (nu : Int)
      · obtain ⟨h1, h2, h3⟩ := hc
        subst h1
        obtain ⟨i, rfl⟩ : ∃ i : Nat, n = (i : Int) := ⟨n.toNat, by omega⟩
        have hi : i < nu := by omega
        have hV := Lib.hid (dSpoil_hit d a i y (by have := HN.out; omega) (by have := HL2.out; omega))
        have i0 : (0 : Int) ≤ (i : Int) := by omega
        have ho9 := own_lit (size := 1) (n := 0) wr [] 5 (Nat.le_refl _) rfl (by unfold maxLen; omega)
        have hby3 := Sl.below hby2 (ext_alloc wr (.cells #[] 5))
        have hl9 : 0 + nu ≤ blim := by rw [blim_def]; omega
        go_upto_region 7 with (at_builtin; (refine app_u8 rfl (.tmp 36) (.tmp 37) rfl wr.heap.size _ 0 [] rfl ho9 _ A2 nu cu _ rfl hby3 (u8s_one _) hl9 (by rw [size_alloc]; omega) ?_; intro v1 w1 own1 hg1 hb1 hat1))
        rw [Nat.zero_add] at own1
        simp only [List.nil_append] at own1
        obtain ⟨A1, c1, rfl, hs1⟩ := own_shape own1
        obtain ⟨g, hA1, hgg, kg, fg, cg, hset⟩ := own_setAt own1 hi
        subst hA1
        have hlb : i < (d.blocks.getD a []).length := by have := HL2.out; omega
        obtain ⟨xb, hxb⟩ : ∃ xb, xb = (d.blocks.getD a []).getD i 0 := ⟨_, rfl⟩
        have cg1 : w1.cell? ⟨g, i, none⟩ = some (.int .u8 (xb.toNat : Int)) := by rw [cg, hxb, u8s_get _ i hlb]
        have hset1 := hset (.int .u8 ((xb ^^^ b8 y).toNat : Int))
        have hse : (u8s (d.blocks.getD a [])).set i (.int .u8 ((xb ^^^ b8 y).toNat : Int)) = u8s ((d.blocks.getD a []).set i (xb ^^^ b8 y)) := by
          unfold u8s
          rw [List.map_set]
          rfl
        rw [hse] at hset1
        have hlen2 : nu = ((d.blocks.getD a []).set i (xb ^^^ b8 y)).length := by rw [List.length_set]; exact HL2.out
        rw [← hxb] at hV
        have hx1 := xor_i64 xb y
        have hx2 := and_255 y
        have x0 := xb.toNat_lt
        have z0 := (xb ^^^ b8 y).toNat_lt
        generalize (xb ^^^ b8 y) = zb at hset1 hV hx1 z0 hlen2
        generalize hzz : (zb.toNat : Int) = z at hset1 hx1
        generalize hxx : (xb.toNat : Int) = x at cg1 hx1
        have z1 : 0 ≤ z := by omega
        have z2 : z < 256 := by omega
        have y1 : 0 ≤ x := by omega
        have y2 : x < 256 := by omega
        have Hlen2 := Lib.hid hlen2
        have heW : Ext wr w1 := (ext_alloc _ _).trans hb1
        have hzz1 := heW.size
        have heX : Ext wr (w1.setCell ⟨g, i, none⟩ (.int .u8 z)) := heW.setCell hgg _
        have ownX := ownr.ext heX
        have b3X := b3r.ext heX
        have huX : ByT (w1.setCell ⟨g, i, none⟩ (.int .u8 z)) base _ _ := ByT.of_own hset1
        have hdX := hd.trans (heX.mono (show w.heap.size + 2 ≤ wr.heap.size by omega))
        obtain ⟨n0, n1⟩ := (b3r.ext heW).cells2
        have gne : w.heap.size + 2 ≠ g := by omega
        have hlt9 : w.heap.size + 2 < w1.heap.size := by omega
        clear hzz hxx hxb hse hset cg hs1 hlen2 ho9 hby3 x0 z0 hat1 own1
        have hszX := heX.size
        have hslX := Sl.new (w1.setCell ⟨g, i, none⟩ (.int .u8 z)) [.slice (some ⟨g, 0, none⟩) nu c1] 22 (0, 0) 1 1 rfl (by unfold maxLen; omega) (Nat.lt_succ_self _)
        rw [size_set] at hslX
        go_wp2_with (at_builtin; (refine wpl_blk rfl (.tmp 52) (.tmp 54) rfl rfl (ownX.ext (ext_alloc _ _)) rfl hslX ⟨_, rfl, huX.kept (T := []) (.ext (ext_alloc _ _))⟩ hlen (by rw [size_alloc]; omega) (by omega) ?_; intro v7 w7 own7 hg7 hb7; obtain ⟨A7, n7, c7, rfl, _, _, _⟩ := own7.form; have b37 := (b3X.ext (ext_alloc _ _)).below hb7 (by omega); obtain ⟨u0, u1⟩ := b37.cells2; have z7 := b37.free))
        go_roundw
        case rel =>
          have k7 := b37.kd
          refine ⟨a + 1, _, _, _, by omega, by go_num, rfl, rfl, b37.set 0 _, ?_, (hdX.trans (((ext_alloc _ _).mono (by omega)).trans (hb7.mono (by omega)))).setCell (Nat.le_refl _) _⟩
          rw [hS.out, hV.out]
          exact own7.kept (T := [22]) (by decide) (Nat.le_refl _) (by (repeat (with_reducible (first | assumption | exact Kept.refl _ _ _ | (apply Kept.setK; rotate_left; (repeat (first | assumption | apply Kd.set | apply Kd.alloc | apply Kd.drew)); decide; omega) | refine Kept.allocK ?_ _ | refine Kept.drewK ?_))))
        case measure => simp [intOf]; omega
      · have hV := Lib.hid (dSpoil_miss d k n y a (by rw [← HL2.out]; exact hc))
        have ownX := ownr
        have huX := hy2
        have b3X := b3r
        have hdX := hd
        have hslX := Sl.new wr [.slice A2 nu cu] 22 (0, 0) 1 1 rfl (by unfold maxLen; omega) (Nat.lt_succ_self _)
        obtain ⟨n0, n1⟩ := b3r.cells2
        by_cases h1 : (a : Int) = k
        · subst h1
          by_cases h2 : 0 ≤ n
          · have q3 : decide (n < (nu : Int)) = false := by simp; omega
            have q3' : (nu : Int) ≤ n := by omega
            clear hc
            go_wp2_with (at_builtin; (refine wpl_blk rfl (.tmp 52) (.tmp 54) rfl rfl (ownX.ext (ext_alloc _ _)) rfl hslX ⟨_, rfl, huX.kept (T := []) (.ext (ext_alloc _ _))⟩ hlen (by rw [size_alloc]; omega) (by omega) ?_; intro v7 w7 own7 hg7 hb7; obtain ⟨A7, n7, c7, rfl, _, _, _⟩ := own7.form; have b37 := (b3X.ext (ext_alloc _ _)).below hb7 (by omega); obtain ⟨u0, u1⟩ := b37.cells2; have z7 := b37.free))
            go_roundw
            case rel =>
              have k7 := b37.kd
              refine ⟨a + 1, _, _, _, by omega, by go_num, rfl, rfl, b37.set 0 _, ?_, (hdX.trans (((ext_alloc _ _).mono (by omega)).trans (hb7.mono (by omega)))).setCell (Nat.le_refl _) _⟩
              rw [hS.out, hV.out]
              exact own7.kept (T := [22]) (by decide) (Nat.le_refl _) (by (repeat (with_reducible (first | assumption | exact Kept.refl _ _ _ | (apply Kept.setK; rotate_left; (repeat (first | assumption | apply Kd.set | apply Kd.alloc | apply Kd.drew)); decide; omega) | refine Kept.allocK ?_ _ | refine Kept.drewK ?_))))
            case measure => simp [intOf]; omega
          · have q2 : decide (0 ≤ n) = false := by simpa using h2
            have q2' : n < 0 := by omega
            clear hc h2
            go_wp2_with (at_builtin; (refine wpl_blk rfl (.tmp 52) (.tmp 54) rfl rfl (ownX.ext (ext_alloc _ _)) rfl hslX ⟨_, rfl, huX.kept (T := []) (.ext (ext_alloc _ _))⟩ hlen (by rw [size_alloc]; omega) (by omega) ?_; intro v7 w7 own7 hg7 hb7; obtain ⟨A7, n7, c7, rfl, _, _, _⟩ := own7.form; have b37 := (b3X.ext (ext_alloc _ _)).below hb7 (by omega); obtain ⟨u0, u1⟩ := b37.cells2; have z7 := b37.free))
            go_roundw
            case rel =>
              have k7 := b37.kd
              refine ⟨a + 1, _, _, _, by omega, by go_num, rfl, rfl, b37.set 0 _, ?_, (hdX.trans (((ext_alloc _ _).mono (by omega)).trans (hb7.mono (by omega)))).setCell (Nat.le_refl _) _⟩
              rw [hS.out, hV.out]
              exact own7.kept (T := [22]) (by decide) (Nat.le_refl _) (by (repeat (with_reducible (first | assumption | exact Kept.refl _ _ _ | (apply Kept.setK; rotate_left; (repeat (first | assumption | apply Kd.set | apply Kd.alloc | apply Kd.drew)); decide; omega) | refine Kept.allocK ?_ _ | refine Kept.drewK ?_))))
            case measure => simp [intOf]; omega
        · have q1 : ((a : Int) == k) = false := by simpa using h1
          clear hc h1
          go_wp2_with (at_builtin; (refine wpl_blk rfl (.tmp 52) (.tmp 54) rfl rfl (ownX.ext (ext_alloc _ _)) rfl hslX ⟨_, rfl, huX.kept (T := []) (.ext (ext_alloc _ _))⟩ hlen (by rw [size_alloc]; omega) (by omega) ?_; intro v7 w7 own7 hg7 hb7; obtain ⟨A7, n7, c7, rfl, _, _, _⟩ := own7.form; have b37 := (b3X.ext (ext_alloc _ _)).below hb7 (by omega); obtain ⟨u0, u1⟩ := b37.cells2; have z7 := b37.free))
          go_roundw
          case rel =>
            have k7 := b37.kd
            refine ⟨a + 1, _, _, _, by omega, by go_num, rfl, rfl, b37.set 0 _, ?_, (hdX.trans (((ext_alloc _ _).mono (by omega)).trans (hb7.mono (by omega)))).setCell (Nat.le_refl _) _⟩
            rw [hS.out, hV.out]
            exact own7.kept (T := [22]) (by decide) (Nat.le_refl _) (by (repeat (with_reducible (first | assumption | exact Kept.refl _ _ _ | (apply Kept.setK; rotate_left; (repeat (first | assumption | apply Kd.set | apply Kd.alloc | apply Kd.drew)); decide; omega) | refine Kept.allocK ?_ _ | refine Kept.drewK ?_))))
          case measure => simp [intOf]; omega
    · have hae : a = m := by omega
      subst hae
      obtain ⟨Au, nu, cu, rfl, _, _, HL⟩ := ownr.form
      obtain ⟨m0, m1⟩ := b3r.cells2
      obtain ⟨r0, r1⟩ := bRr.cells2
      have zR := bRr.free
      have k3 := b3r.kd
      have kR := bRr.kd
      go_wp2
      ((try simp only [Exit.inBlock, Exit.then]); refine bodyPost_ret (v := ?_) ?resultOf rfl ?_; case resultOf => (rw [results_cell1 rfl]; go_simp; rfl))
      rw [HF.out]
      refine and_ext1 (by (repeat (with_reducible (first | assumption | exact Below.refl _ _ | refine Below.setCell ?_ (by simp <;> omega) _ | refine Below.alloc ?_ (by simp <;> omega) _ | refine Below.drew ?_ | refine below_drewN ?_ _)))) fun hxx => ⟨_, rfl, ⟨_, _, rfl, (ownr.kB (by (repeat (with_reducible (first | assumption | exact Kept.refl _ _ _ | (apply Kept.setK; rotate_left; (repeat (first | assumption | apply Kd.set | apply Kd.alloc | apply Kd.drew)); decide; omega) | refine Kept.allocK ?_ _ | refine Kept.drewK ?_))))).row (List.mem_cons_of_mem _ (HT.out (by decide))) (Nat.le_refl _), hl.ext hxx⟩⟩

end Go.Proofs.Ytnganglmpcbcbaa
