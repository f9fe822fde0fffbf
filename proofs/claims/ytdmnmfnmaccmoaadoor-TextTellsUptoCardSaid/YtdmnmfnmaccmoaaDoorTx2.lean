/- Walks of chapter 7: bytes' digits. -/
import Derived.Test.YtdmnmfnmaccmoaaDoorTx0
import Derived.Test.YtdmnmfnmaccmoaaDoorTx1
namespace Go.Proofs.YtdmnmfnmaccmoaaDoor
open Go Go.RowKit
abbrev IsB (w : World) (b : Nat) (l : List UInt8) : Prop := Lib.IsBuilderF 55 5 b b (Lib.byteCells l) w
theorem isB_new (w : World) : IsB (w.alloc (.cells #[.pointer none, .slice none 0 0] 55)) w.heap.size [] := .of (Lib.fresh_isBuilder 55 5 w)
theorem putB {w : World} {b : Nat} {l : List UInt8} (c : UInt8) {x : Int} (hx : x = (c.toNat : Int)) (h : IsB w b l) (hl : l.length + 1 ≤ 140737488355328) (hb : b ≤ w.heap.size) :
  Calls Tryd.prog 28 #[.pointer (some ⟨b, 0, none⟩), .int .u8 x] w fun e w' => e = .returned .nilIface ∧ IsB w' b (l ++ [c]) ∧ Below b w w' :=
 (Any.Builder_WriteByte_k Tryd.lays167 Tryd.extra167 b b (Lib.byteCells l) x w h (by rw [Lib.byteCells_length]; omega) hb).mono fun _ _ ⟨he, h1, h2, _⟩ => ⟨he, .inr (by rw [Lib.byteCells_append]; subst hx; exact h1), h2⟩
theorem outB {w : World} {b : Nat} {l : List UInt8} (h : IsB w b l) (hb : b ≤ w.heap.size) :
  Calls Tryd.prog 29 #[.pointer (some ⟨b, 0, none⟩)] w fun e w' => e = .returned (.string ⟨l.toArray⟩) ∧ Below b w w' :=
 (Any.Builder_String_any_k Tryd.lays169 Tryd.extra169 b b l w h hb).mono fun _ _ ⟨he, _, h2, _⟩ => ⟨he, h2⟩
def hflat (l : List UInt8) : List UInt8 := l.flatMap fun c => [hdig (c.toNat / 16), hdig (c.toNat % 16)]
theorem hflat_len (l : List UInt8) : (hflat l).length = 2 * l.length := hex_len l
theorem hflat_succ (l : List UInt8) (k : Nat) (h : k < l.length) : hflat (l.take (k + 1)) = hflat (l.take k) ++ [hdig ((l.getD k 0).toNat / 16)] ++ [hdig ((l.getD k 0).toNat % 16)] := by
 unfold hflat
 rw [List.take_succ_eq_append_getElem h, List.flatMap_append]
 simp [List.getD_eq_getElem?_getD, List.getElem?_eq_getElem h]
theorem hexAt_fin : ∀ i : Fin 16, (ByteArray.mk #[48, 49, 50, 51, 52, 53, 54, 55, 56, 57, 97, 98, 99, 100, 101, 102])[i.val]'(i.isLt) = hdig i.val := by decide +kernel
theorem hexAt {i : Nat} (h : i < (ByteArray.mk #[48, 49, 50, 51, 52, 53, 54, 55, 56, 57, 97, 98, 99, 100, 101, 102]).size) : (ByteArray.mk #[48, 49, 50, 51, 52, 53, 54, 55, 56, 57, 97, 98, 99, 100, 101, 102])[i]'h = hdig i := hexAt_fin ⟨i, h⟩
set_option maxHeartbeats 4000000 in
set_option maxRecDepth 100000 in
theorem hex_v {base : Nat} {v : Value} {l : List UInt8} {w : World} (h : ByT w base v l) (hlen : l.length ≤ 1000000000) :
  Calls Tryd.prog 21 #[v] w fun e w' => e = .returned (.string ⟨(hexOf l).toArray⟩) ∧ Ext w w' := by
 obtain ⟨A, n, c, rfl, hby, HN⟩ := h.form
 have hcap := Sl.cap hby
 have hmax := Sl.max hby
 unfold maxLen at hmax
 have hn := HN.out
 by_cases h0 : n = 0
 ·have q : decide ((n : Int) = 0) = true := by simp; omega
  have hr : hexOf l = [45] := by
   unfold hexOf
   rw [if_pos (List.eq_nil_of_length_eq_zero (by omega))]
  rw [hr]
  clear hr hn q
  go_enter Tryd.func21, Tryd.ntmps21
  go_wp2
  go_ret
  exact ⟨rfl, Below.refl _ _⟩
 ·have q : ((n : Int) == 0) = false := by simp; omega
  have hr : hexOf l = hflat l := by
   unfold hexOf hflat
   rw [if_neg]
   intro e
   rw [e] at hn
   exact h0 hn
  rw [hr]
  have hn' : n ≤ 1000000000 := by omega
  clear hr hn
  go_enter Tryd.func21, Tryd.ntmps21
  go_wp2
  go_loopw [11] (fun i wr => ∃ k : Nat, k ≤ n ∧ i = .int .i64 k ∧ IsB wr w.heap.size (hflat (l.take k)) ∧ Ext w wr) (fun i _ => n - (intOf i).toNat)
  case atStart => exact ⟨0, Nat.zero_le _, rfl, isB_new w, (Below.refl _ w).alloc (Nat.le_refl _) _⟩
  case round =>
   obtain ⟨k, hk, rfl, hI, hd⟩ := hrel
   by_cases hlt : k < n
   ·obtain ⟨A', n', c', e', hby', HN'⟩ := (h.ext hd).form
    cases e'
    obtain ⟨b, o, x, rfl, hB, hck, h80, h81, Hb⟩ := hby'.byte hlt
    have hs := hd.size
    have hfl := hflat_len (l.take k)
    rw [List.length_take] at hfl
    have hsucc := hflat_succ l k (by have := HN.out; omega)
    have HH := Lib.hid hsucc
    have F1 : Hid (∀ pf, (((ByteArray.mk #[48, 49, 50, 51, 52, 53, 54, 55, 56, 57, 97, 98, 99, 100, 101, 102])[(x / 16).toNat]'pf).toNat : Int) = ((hdig ((l.getD k 0).toNat / 16)).toNat : Int)) := fun pf => by
     rw [hexAt pf, show (x / 16).toNat = (l.getD k 0).toNat / 16 by have := Hb.out; omega]
    have F2 : Hid (∀ pf, (((ByteArray.mk #[48, 49, 50, 51, 52, 53, 54, 55, 56, 57, 97, 98, 99, 100, 101, 102])[(x % 16).toNat]'pf).toNat : Int) = ((hdig ((l.getD k 0).toNat % 16)).toNat : Int)) := fun pf => by
     rw [hexAt pf, show (x % 16).toNat = (l.getD k 0).toNat % 16 by have := Hb.out; omega]
    clear hsucc
    go_wp2_with (go_at_call 28; rw [F1.out]; refine (putB (hdig ((l.getD k 0).toNat / 16)) rfl hI (by omega) hs).mono ?_; rintro e w1 ⟨rfl, hI1, hb1⟩)
    have hs1 := hb1.size
    go_wp2_with (go_at_call 28; rw [F2.out]; refine (putB (hdig ((l.getD k 0).toNat % 16)) rfl hI1 (by rw [List.length_append, List.length_singleton]; omega) (by omega)).mono ?_; rintro e w2 ⟨rfl, hI2, hb2⟩)
    go_roundw
    case rel => exact ⟨k + 1, by omega, by go_num, by rw [HH.out]; exact hI2, (hd.trans hb1).trans hb2⟩
    case measure => simp [intOf]; omega
   ·go_wp2_with (go_at_call 29; refine (outB hI hd.size).mono ?_)
    rintro e w1 ⟨rfl, hb1⟩
    go_wp2
    go_ret
    refine ⟨?_, hd.trans hb1⟩
    rw [List.take_of_length_le (by have := HN.out; omega)]
    rfl
end Go.Proofs.YtdmnmfnmaccmoaaDoor
