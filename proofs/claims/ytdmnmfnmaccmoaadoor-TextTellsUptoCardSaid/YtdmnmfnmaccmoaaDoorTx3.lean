/- Walks of chapter 7: two digits as a byte. -/
import Derived.Test.YtdmnmfnmaccmoaaDoorTx2
import Derived.Lib.ConvBytes
import Derived.Laws.Strings3
namespace Go.Proofs.YtdmnmfnmaccmoaaDoor
open Go Go.RowKit
theorem or_fin : ∀ k : Fin 26, bits .or .u8 (97 + (k.val : Int)) 32 = 97 + (k.val : Int) := by decide +kernel
theorem or_low {x : Int} (h0 : 97 ≤ x) (h1 : x ≤ 122) : bits .or .u8 x 32 = x := by
 have := or_fin ⟨(x - 97).toNat, by omega⟩
 simp only at this
 rw [show (97 + ((x - 97).toNat : Int)) = x by omega] at this
 exact this
theorem lower_v {x : Int} (h0 : 97 ≤ x) (h1 : x ≤ 122) (w : World) :
  Calls Tryd.prog 55 #[.int .u8 x] w fun e w' => e = .returned (.int .u8 x) ∧ w' = w := by
 have hb := or_low h0 h1
 go_enter Tryd.func55, Tryd.ntmps55
 go_wp2
 go_ret
 exact ⟨rfl, rfl⟩
def twoAt (x y : Nat) : Nat → Int
 | 0 => 0
 | 1 => x
 | _ => 16 * x + y
theorem hval_cases {c : UInt8} {n : Nat} (h : hval c = some n) : (48 ≤ c.toNat ∧ c.toNat ≤ 57 ∧ n = c.toNat - 48) ∨ (97 ≤ c.toNat ∧ c.toNat ≤ 102 ∧ n = c.toNat - 87) := by
 unfold hval at h
 split at h
 ·injection h with h; exact .inl ⟨by omega, by omega, h.symm⟩
 ·split at h
  ·injection h with h; exact .inr ⟨by omega, by omega, h.symm⟩
  ·cases h
set_option maxHeartbeats 8000000 in
set_option maxRecDepth 100000 in
theorem inHex_v {c d : UInt8} {x y : Nat} (hc : hval c = some x) (hd : hval d = some y) (w : World) :
  Calls Tryd.prog 40 #[.string ⟨#[c, d]⟩, .int .i64 16, .int .i64 8] w fun e w' => e = .returned (.tuple #[.int .u64 (16 * x + y), .nilIface]) ∧ Ext w w' := by
 obtain ⟨t, ht⟩ : ∃ t : ByteArray, t = ⟨#[c, d]⟩ := ⟨_, rfl⟩
 have hts : t.size = 2 := by rw [ht]; rfl
 have htl : t.data.toList = [c, d] := by rw [ht]
 have hemp : t.toList.isEmpty = false := by
  rw [Lib.toList_data, htl]; rfl
 rw [← ht]
 clear ht
 have hcv := Lib.run_convert_string_bytes (P := Tryd.prog) w 9 22 5 t (u := .string) Tryd.underlying9 Tryd.underlying22 Tryd.underlying5
 have hB : ∀ j, j < t.size → (Lib.bytesWorld w 5 t).cell? ⟨w.heap.size, j, none⟩ = some (.int .u8 (t.data.toList.getD j 0).toNat) := fun j hj => Lib.bytesWorld_cell w 5 t j hj
 have hE : Ext w (Lib.bytesWorld w 5 t) := Lib.bytesWorld_below _ _ _
 obtain ⟨W1, hW1⟩ : ∃ W1, W1 = Lib.bytesWorld w 5 t := ⟨_, rfl⟩
 rw [← hW1] at hcv hB hE
 clear hW1
 rw [hts] at hcv
 have hB0 := hB 0 (by omega)
 have hB1 := hB 1 (by omega)
 rw [htl] at hB0 hB1
 simp only [List.getD_cons_zero, List.getD_cons_succ] at hB0 hB1
 clear hB htl
 have hmv : IntKind.u64.wrap (IntKind.u64.wrap 256 - 1) = 255 := by
  rw [IntKind.wrap_u64, IntKind.wrap_u64]
  decide
 have hx := hval_lt hc
 have hy := hval_lt hd
 have Hc := Lib.hid (hval_cases hc)
 have Hd := Lib.hid (hval_cases hd)
 clear hc hd
 go_enter Tryd.func40, Tryd.ntmps40
 go_wp2
 go_loop [12, 13, 101] (fun vu vn vi => ∃ (k : Nat) (a : Int), vu = .bool false ∧ vn = .int .u64 a ∧ vi = .int .i64 k ∧ k ≤ 2 ∧ 0 ≤ a ∧ a ≤ 255 ∧ (k < 2 → a ≤ 15) ∧ Hid (a = twoAt x y k))
  (fun _ _ vi => 2 - (intOf vi).toNat)
 case atStart => exact ⟨0, 0, rfl, rfl, rfl, by omega, by omega, by omega, fun _ => by omega, rfl⟩
 case round =>
  obtain ⟨k, a, rfl, rfl, rfl, hk, a0, a1, a2, hh⟩ := hrel
  by_cases hkn : k < 2
  ·have a3 := a2 hkn
   clear a2 a1
   obtain ⟨z, cc, hcell, Hz, hz, Hn⟩ : ∃ (z : Nat) (cc : UInt8), W1.cell? ⟨w.heap.size, k, none⟩ = some (.int .u8 cc.toNat) ∧ Hid ((48 ≤ cc.toNat ∧ cc.toNat ≤ 57 ∧ z = cc.toNat - 48) ∨ (97 ≤ cc.toNat ∧ cc.toNat ≤ 102 ∧ z = cc.toNat - 87)) ∧ z < 16 ∧ Hid (a * 16 + z = twoAt x y (k + 1)) := by
    have hh' := hh.out
    match k, hkn with
    | 0, _ => exact ⟨x, c, hB0, Hc, hx, by show _ = (x : Int); rw [hh']; simp [twoAt]⟩
    | 1, _ => exact ⟨y, d, hB1, Hd, hy, by show _ = (16 * x + y : Int); rw [hh']; simp only [twoAt]; omega⟩
   clear hB0 hB1 Hc Hd hy hh
   have hc256 : cc.toNat < 256 := cc.toNat_lt
   have HN : Hid (a * 16 + z = twoAt x y (k + 1) ∧ (k + 1 < 2 → a * 16 + z ≤ 15) ∧ 0 ≤ a * 16 + (z : Int) ∧ a * 16 + (z : Int) ≤ 255) := by
    refine ⟨Hn.out, fun h => ?_, by omega, by omega⟩
    obtain rfl : k = 0 := by omega
    rw [Hn.out]
    show (x : Int) ≤ 15
    omega
   rcases Hz.out with ⟨q0, q1, q2⟩ | ⟨q0, q1, q2⟩
   ·have q3 : (z : Int) = (cc.toNat : Int) - 48 := by omega
    rw [q3] at HN
    clear Hz q2 q3 hz Hn hx
    go_wp2
    refine ⟨⟨k + 1, _, rfl, rfl, by go_num, by omega, HN.out.2.2.1, HN.out.2.2.2, HN.out.2.1, HN.out.1⟩, by simp [intOf]; omega⟩
   ·have q3 : (z : Int) = (cc.toNat : Int) - 97 + 10 := by omega
    rw [q3] at HN
    clear Hz q2 q3 hz Hn hx
    have q1' : (cc.toNat : Int) ≤ 122 := by omega
    go_wp2_with (go_at_call 55; refine (lower_v (by omega) q1' _).mono ?_; rintro e w' ⟨rfl, rfl⟩)
    refine ⟨⟨k + 1, _, rfl, rfl, by go_num, by omega, HN.out.2.2.1, HN.out.2.2.2, HN.out.2.1, HN.out.1⟩, by simp [intOf]; omega⟩
  ·obtain rfl : k = 2 := by omega
   have e := hh.out
   clear a2 hh
   go_wp2
   go_ret2
   exact ⟨rfl, hE⟩
set_option maxHeartbeats 4000000 in
set_option maxRecDepth 100000 in
theorem hex2_v {c d : UInt8} {x y : Nat} (hc : hval c = some x) (hd : hval d = some y) (w : World) :
  Calls Tryd.prog 24 #[.string ⟨#[c, d]⟩, .int .i64 16, .int .i64 8] w fun e w' => e = .returned (.tuple #[.int .u64 (16 * x + y), .nilIface]) ∧ Ext w w' := by
 go_enter Tryd.func24, Tryd.ntmps24
 go_wp2_with (go_at_call 40; refine (inHex_v hc hd _).mono ?_; rintro e w' ⟨rfl, hE⟩)
 go_ret2
 exact ⟨rfl, hE⟩
end Go.Proofs.YtdmnmfnmaccmoaaDoor
