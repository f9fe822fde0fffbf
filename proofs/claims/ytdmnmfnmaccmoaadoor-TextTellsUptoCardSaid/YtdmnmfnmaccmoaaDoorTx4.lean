/- Walks of chapter 7: digits as bytes. -/
import Derived.Test.YtdmnmfnmaccmoaaDoorTx3
namespace Go.Proofs.YtdmnmfnmaccmoaaDoor
open Go Go.RowKit
def hset : List UInt8 := [48, 49, 50, 51, 52, 53, 54, 55, 56, 57, 97, 98, 99, 100, 101, 102]
theorem hset_fin : ∀ k : Fin 256, hset.contains (UInt8.ofNat k.val) = (hval (UInt8.ofNat k.val)).isSome := by decide +kernel
theorem hset_val (c : UInt8) : hset.contains c = (hval c).isSome := by
 have := hset_fin ⟨c.toNat, c.toNat_lt⟩
 simpa using this
theorem dropWhile_nil (p : UInt8 → Bool) : ∀ l : List UInt8, l.dropWhile p = [] ↔ ∀ c ∈ l, p c = true
 | [] => by simp
 | c :: l => by
  rw [List.dropWhile_cons]
  by_cases h : p c = true
  ·rw [if_pos h, dropWhile_nil p l]
   simp [h]
  ·rw [if_neg h]
   simp [h]
theorem trim_hex (l : List UInt8) : Lib.trimS l hset = [] ↔ ∀ c ∈ l, (hval c).isSome = true := by
 unfold Lib.trimS Lib.trimLeftS Lib.trimRightS
 rw [dropWhile_nil]
 simp only [hset_val]
 constructor
 ·intro h
  have h2 : (l.reverse.dropWhile fun b => hset.contains b) = [] := by
   cases hd : l.reverse.dropWhile (fun b => hset.contains b) with
   | nil => rfl
   | cons x r =>
    exfalso
    have hx := h x (by simp only [hset_val] at hd; rw [hd]; simp)
    have := List.head?_dropWhile_not (fun b => hset.contains b) l.reverse
    rw [hd] at this
    simp only [List.head?_cons] at this
    rw [hset_val, hx] at this
    cases this
  rw [dropWhile_nil] at h2
  intro c hc
  have := h2 c (by simpa using hc)
  rwa [hset_val] at this
 ·intro h c hc
  exact h c (by
   have := List.dropWhile_sublist (fun b => (hval b).isSome) (l := l.reverse)
   simpa using this.subset (by simpa using hc))
def unp : List UInt8 → List UInt8
 | a :: b :: l => UInt8.ofNat (16 * (hval a).getD 0 + (hval b).getD 0) :: unp l
 | _ => []
theorem unpair_all : ∀ l : List UInt8, l.length % 2 = 0 → (∀ c ∈ l, (hval c).isSome = true) → unpair l = some (unp l)
 | [], _, _ => rfl
 | [_], h, _ => by simp at h
 | a :: b :: l, h, ha => by
  have h1 := ha a (by simp)
  have h2 := ha b (by simp)
  have ih := unpair_all l (by simp only [List.length_cons] at h; omega) fun c hc => ha c (by simp [hc])
  unfold unpair unp
  cases h3 : hval a with
  | none => rw [h3] at h1; cases h1
  | some x =>
   cases h4 : hval b with
   | none => rw [h4] at h2; cases h2
   | some y => rw [ih]; rfl
theorem unpair_bad : ∀ (l b : List UInt8), unpair l = some b → l.length % 2 = 0 ∧ ∀ c ∈ l, (hval c).isSome = true
 | [], _, _ => by simp
 | [_], _, h => by unfold unpair at h; cases h
 | a :: b :: l, r, h => by
  unfold unpair at h
  split at h
  ·rename_i x y z h1 h2 h3
   obtain ⟨q1, q2⟩ := unpair_bad l z h3
   refine ⟨by simp only [List.length_cons]; omega, fun c hc => ?_⟩
   rcases List.mem_cons.1 hc with rfl | hc
   ·rw [h1]; rfl
   ·rcases List.mem_cons.1 hc with rfl | hc
    ·rw [h2]; rfl
    ·exact q2 c hc
  ·cases h
theorem unp_succ : ∀ (k : Nat) (l : List UInt8), 2 * k + 1 < l.length → unp (l.take (2 * (k + 1))) = unp (l.take (2 * k)) ++ [UInt8.ofNat (16 * (hval (l.getD (2 * k) 0)).getD 0 + (hval (l.getD (2 * k + 1) 0)).getD 0)]
 | 0, a :: b :: l, _ => rfl
 | k + 1, a :: b :: l, h => by
  have ih := unp_succ k l (by simp only [List.length_cons] at h; omega)
  rw [show 2 * (k + 1 + 1) = 2 * (k + 1) + 1 + 1 by omega, show 2 * (k + 1) = 2 * k + 1 + 1 by omega] at *
  simp only [List.take_succ_cons, unp, List.cons_append, List.getD_cons_succ]
  rw [← ih]
 | _, [], h => by simp at h
 | _, [_], h => by simp at h
theorem unp_len : ∀ (k : Nat) (l : List UInt8), 2 * k ≤ l.length → (unp (l.take (2 * k))).length = k
 | 0, _, _ => by simp [unp]
 | k + 1, [], h => by simp at h
 | k + 1, [_], h => by simp at h; omega
 | k + 1, a :: b :: l, h => by
  rw [show 2 * (k + 1) = 2 * k + 1 + 1 by omega]
  simp only [List.take_succ_cons, unp, List.length_cons]
  rw [unp_len k l (by simp only [List.length_cons] at h; omega)]
theorem cut_two {t : ByteArray} {l : List UInt8} (ht : t.data.toList = l) {j : Nat} (hj : j + 2 ≤ l.length) : t.extract j (j + 2) = ⟨#[l.getD j 0, l.getD (j + 1) 0]⟩ := by
 have e : (t.extract j (j + 2)).data.toList = [l.getD j 0, l.getD (j + 1) 0] := by
  rw [ByteArray.data_extract, Array.toList_extract, ht]
  apply List.ext_getElem?
  intro i
  rw [List.extract_eq_take_drop, show j + 2 - j = 2 by omega]
  match i with
  | 0 => simp [List.getElem?_drop, List.getElem?_eq_getElem (show j < l.length by omega)]
  | 1 => simp [List.getElem?_drop, List.getElem?_eq_getElem (show j + 1 < l.length by omega)]
  | i + 2 => simp [List.getElem?_take]; omega
 have e' : (t.extract j (j + 2)).data = #[l.getD j 0, l.getD (j + 1) 0] := Array.toList_inj.1 e
 cases hx : t.extract j (j + 2)
 rw [hx] at e'
 exact congrArg _ e'
theorem trim_v (l : List UInt8) (hl : l.length ≤ 9223372036854775807) (w : World) :
  Calls Tryd.prog 23 #[.string ⟨l.toArray⟩, .string ⟨#[48, 49, 50, 51, 52, 53, 54, 55, 56, 57, 97, 98, 99, 100, 101, 102]⟩] w fun e w' => e = .returned (.string ⟨(Lib.trimS l hset).toArray⟩) ∧ Ext w w' :=
 (Any.strings_Trim_laid Tryd.lays160 (by kernel_rfl) ⟨l.toArray⟩ ⟨#[48, 49, 50, 51, 52, 53, 54, 55, 56, 57, 97, 98, 99, 100, 101, 102]⟩ w (by show l.toArray.size ≤ _; simpa using hl) (by decide) (ascii_of_all (by decide))).mono fun _ _ ⟨he, hb⟩ => ⟨by rw [he]; rfl, hb⟩
theorem listOf (l : List UInt8) : (ByteArray.mk l.toArray).toList = l := by rw [Lib.toList_data]
theorem sizeOf_ (l : List UInt8) : (ByteArray.mk l.toArray).size = l.length := by show l.toArray.size = _; simp
set_option maxHeartbeats 8000000 in
set_option maxRecDepth 100000 in
theorem unhex_v (l : List UInt8) (hl : l.length ≤ 1000000000) (w : World) :
  Calls Tryd.prog 15 #[.string ⟨l.toArray⟩] w fun e w' => ∃ v b, e = .returned (.tuple #[v, .bool b]) ∧ Hid (b = (unHex l).isSome) ∧ ByT w' 0 v ((unHex l).getD []) ∧ Ext w w' := by
 have hsz := sizeOf_ l
 have hls := listOf l
 have hd0 : (ByteArray.mk l.toArray).data.toList = l := by simp
 have hT := trim_v l (by omega)
 obtain ⟨t, ht⟩ : ∃ t : ByteArray, t = ⟨l.toArray⟩ := ⟨_, rfl⟩
 rw [← ht] at hsz hls hT hd0 ⊢
 clear ht
 by_cases h45 : l = [45]
 ·have q : (t.toList == [45]) = true := by rw [hls, h45]; rfl
  have hr : unHex l = some [] := by unfold unHex; rw [if_pos h45]
  rw [hr]
  clear hT hls hd0 hr h45
  go_enter Tryd.func15, Tryd.ntmps15
  go_wp2
  go_ret2
  exact ⟨_, _, rfl, rfl, ByT.nil _ _, Below.refl _ _⟩
 ·have q45 : (t.toList == [45]) = false := by rw [hls]; simpa using h45
  by_cases h0 : l = []
  ·have q : t.toList.isEmpty = true := by rw [hls, h0]; rfl
   have hr : unHex l = none := by unfold unHex; rw [if_neg h45, if_pos h0]
   rw [hr]
   clear hT hls hd0 hr h45 h0
   go_enter Tryd.func15, Tryd.ntmps15
   go_wp2
   go_ret2
   exact ⟨_, _, rfl, rfl, ByT.nil _ _, Below.refl _ _⟩
  ·have q : t.toList.isEmpty = false := by rw [hls]; simpa using h0
   have hu : unHex l = unpair l := by unfold unHex; rw [if_neg h45, if_neg h0]
   rw [hu]
   by_cases h2 : l.length % 2 = 0
   ·by_cases ha : ∀ c ∈ l, (hval c).isSome = true
    ·rw [unpair_all l h2 ha]
     have hne : (ByteArray.mk (Lib.trimS l hset).toArray).toList.isEmpty = true := by
      rw [listOf, (trim_hex l).2 ha]
      rfl
     obtain ⟨r, hrr⟩ : ∃ r : ByteArray, r = ⟨(Lib.trimS l hset).toArray⟩ := ⟨_, rfl⟩
     rw [← hrr] at hT hne
     have Ha := Lib.hid ha
     have H2 := Lib.hid h2
     have HD := Lib.hid hd0
     obtain ⟨m, hm⟩ : ∃ m, m = l.length := ⟨_, rfl⟩
     have HM := Lib.hid hm
     rw [← hm] at hsz hl
     have h2' : (m : Int) % 2 = 0 := by omega
     clear hls hd0 h45 h0 hu hrr ha h2 hm
     go_enter Tryd.func15, Tryd.ntmps15
     go_wp2_with (go_at_call 23; refine (hT _).mono ?_; rintro e w1 ⟨rfl, he⟩)
     go_loopw [4, 5] (fun v i wr => ∃ j k : Nat, j ≤ m ∧ Hid (j = 2 * k) ∧ i = .int .i64 j ∧ wr.ownsRow w.heap.size 5 1 v k (u8s (unp (l.take (2 * k)))) ∧ Ext w wr) (fun _ i _ => m - (intOf i).toNat)
     case atStart => exact ⟨0, 0, Nat.zero_le _, rfl, rfl, own_nil _ _ _ _, he⟩
     case round =>
      obtain ⟨j, k, hj, Hj, rfl, hown, hd⟩ := hrel
      have hs := hd.size
      by_cases hlt : j < m
      ·have hj2 : j + 2 ≤ m := by have := Hj.out; omega
       obtain ⟨x, hx⟩ : ∃ x, hval (l.getD j 0) = some x := by
        have := Ha.out (l.getD j 0) (by have := HM.out; simp [List.getD_eq_getElem?_getD, List.getElem?_eq_getElem (show j < l.length by omega)])
        exact Option.isSome_iff_exists.1 this
       obtain ⟨y, hy⟩ : ∃ y, hval (l.getD (j + 1) 0) = some y := by
        have := Ha.out (l.getD (j + 1) 0) (by have := HM.out; simp [List.getD_eq_getElem?_getD, List.getElem?_eq_getElem (show j + 1 < l.length by omega)])
        exact Option.isSome_iff_exists.1 this
       have x1 := hval_lt hx
       have y1 := hval_lt hy
       have hsucc := Lib.hid (unp_succ k l (by have := HM.out; have := Hj.out; omega))
       have hcall := hex2_v hx hy wr
       obtain ⟨z, hz⟩ : ∃ z : Int, z = 16 * x + y := ⟨_, rfl⟩
       have HZ : Hid (unp (l.take (2 * (k + 1))) = unp (l.take (2 * k)) ++ [UInt8.ofNat (16 * x + y)] ∧ z = ((UInt8.ofNat (16 * x + y)).toNat : Int)) := by
        have e := hsucc.out
        rw [← Hj.out, hx, hy] at e
        exact ⟨by rw [← Hj.out]; exact e, by rw [hz, UInt8.toNat_ofNat']; omega⟩
       have z0 : 0 ≤ z := by omega
       have z1 : z < 256 := by omega
       have hcut := Lib.hid (cut_two HD.out (j := j) (by have := HM.out; omega))
       rw [← hz] at hcall
       rw [← hcut.out] at hcall
       clear hz hx hy hsucc x1 y1
       have hk : k ≤ 1000000000 := by have := Hj.out; omega
       have hz2 : IntKind.u8.wrap z = z := by rw [IntKind.wrap_u8]; omega
       go_wp2_with (first | (at_builtin; refine app_u8 rfl (.tmp 38) (.tmp 41) rfl w.heap.size _ k _ rfl (own_alloc (own_ext hown he2) _) _ _ 1 1 [.int .u8 z] rfl (Sl.new _ _ _ _ 1 1 rfl (by unfold maxLen; omega) (Nat.lt_succ_self _)) (by simp [Value.oneCell']) (by rw [blim_def]; omega) (by rw [size_alloc]; have := he2.size; omega) ?_; intro v7 w7 hp7 hg7 hb7 hat7) | (go_at_call 24; refine hcall.mono ?_; rintro e w2 ⟨rfl, he2⟩))
       refine ⟨⟨j + 2, k + 1, hj2, Lib.hid (by have := Hj.out; omega), by go_num, ?_, ?_⟩, by simp [intOf]; omega⟩
       ·have hp8 := hp7
        rw [show [Value.int IntKind.u8 z] = u8s [UInt8.ofNat (16 * x + y)] by show _ = [u8v _]; unfold u8v; rw [HZ.out.2], ← u8s_append, ← HZ.out.1] at hp8
        exact hp8
       ·exact hd.trans ((he2.mono hs).trans (((ext_alloc w2 _).mono (by have := he2.size; omega)).trans hb7))
      ·obtain rfl : j = m := by omega
       go_wp2
       go_ret2
       have e : l.take (2 * k) = l := List.take_of_length_le (by have := Hj.out; have := HM.out; omega)
       rw [e] at hown
       exact ⟨_, _, rfl, rfl, ByT.of_own hown, hd⟩
    ·have hr : unpair l = none := by
      cases hp : unpair l with
      | none => rfl
      | some b => exact absurd (unpair_bad l b hp).2 ha
     have hne : (ByteArray.mk (Lib.trimS l hset).toArray).toList.isEmpty = false := by
      rw [listOf]
      have := fun h => ha ((trim_hex l).1 h)
      simpa using this
     rw [hr]
     obtain ⟨r, hrr⟩ : ∃ r : ByteArray, r = ⟨(Lib.trimS l hset).toArray⟩ := ⟨_, rfl⟩
     rw [← hrr] at hT hne
     clear hls hd0 hr h45 h0 hu ha hrr
     go_enter Tryd.func15, Tryd.ntmps15
     go_wp2_with (go_at_call 23; refine (hT _).mono ?_; rintro e w1 ⟨rfl, he⟩)
     go_ret2
     exact ⟨_, _, rfl, rfl, ByT.nil _ _, he⟩
   ·have hr : unpair l = none := by
     cases hp : unpair l with
     | none => rfl
     | some b => exact absurd (unpair_bad l b hp).1 h2
    rw [hr]
    clear hT hls hd0 hr h45 h0 hu
    go_enter Tryd.func15, Tryd.ntmps15
    go_wp2
    go_ret2
    exact ⟨_, _, rfl, rfl, ByT.nil _ _, Below.refl _ _⟩
end Go.Proofs.YtdmnmfnmaccmoaaDoor
