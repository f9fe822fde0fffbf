/- Plain: deeds as texts (chapter 7). -/
import Derived.Lib.SplitLaws
import Derived.Lib.AtoiTie
import Derived.Lib.ItoaNum
import Derived.Lib.SlTrimSet
import Derived.Test.YtdmnmfnmaccmoaaDoorG2
namespace Go.Proofs.YtdmnmfnmaccmoaaDoor
open Go
def tCut : List UInt8 → List (List UInt8)
 | [] => [[]]
 | c :: l => if c = 32 then [] :: tCut l else (c :: (tCut l).headD []) :: (tCut l).tail
def tJoin : List (List UInt8) → List UInt8
 | [] => []
 | [w] => w
 | w :: v :: ws => w ++ 32 :: tJoin (v :: ws)
theorem tCut_cons (c : UInt8) (l : List UInt8) : tCut (c :: l) = if c = 32 then [] :: tCut l else (c :: (tCut l).headD []) :: (tCut l).tail := rfl
theorem cut_ne (s : List UInt8) : tCut s ≠ [] := by
 cases s with
 | nil => simp [tCut]
 | cons c l => unfold tCut; split <;> simp
theorem cut_cons (s : List UInt8) : ∃ w ws, tCut s = w :: ws := by
 cases h : tCut s with
 | nil => exact absurd h (cut_ne s)
 | cons w ws => exact ⟨w, ws, rfl⟩
theorem cut_join : ∀ s, tJoin (tCut s) = s
 | [] => rfl
 | c :: l => by
  obtain ⟨w, ws, h⟩ := cut_cons l
  have ih := cut_join l
  unfold tCut
  rw [h] at ih ⊢
  split
  ·rename_i hc
   rw [hc]
   show [] ++ 32 :: tJoin (w :: ws) = _
   rw [ih]
   rfl
  ·cases ws with
   | nil => show c :: w = _; rw [← ih]; rfl
   | cons v ws =>
    show (c :: w) ++ 32 :: tJoin (v :: ws) = _
    rw [← ih]
    rfl
theorem cut_word {w : List UInt8} (h : ∀ c ∈ w, c ≠ 32) : tCut w = [w] := by
 induction w with
 | nil => rfl
 | cons c l ih =>
  have := ih fun x hx => h x (List.mem_cons_of_mem _ hx)
  rw [tCut_cons, if_neg (h c List.mem_cons_self), this]
  rfl
theorem cut_app {w : List UInt8} (h : ∀ c ∈ w, c ≠ 32) (l : List UInt8) : tCut (w ++ 32 :: l) = w :: tCut l := by
 induction w with
 | nil => show tCut (32 :: l) = _; rw [tCut_cons, if_pos rfl]
 | cons c w ih =>
  have := ih fun x hx => h x (List.mem_cons_of_mem _ hx)
  show tCut (c :: (w ++ 32 :: l)) = _
  rw [tCut_cons, if_neg (h c List.mem_cons_self), this]
  rfl
theorem index_one (b c : UInt8) (l : List UInt8) : Lib.index (b :: l) [c] = if b = c then 0 else if Lib.index l [c] == -1 then -1 else Lib.index l [c] + 1 := by
 show (if [c].isPrefixOf (b :: l) then (0 : Int) else _) = _
 have e : [c].isPrefixOf (b :: l) = decide (b = c) := by
  simp only [List.isPrefixOf, Bool.and_true]
  by_cases h : b = c
  ·rw [h]; simp
  ·rw [decide_eq_false h]
   simpa using fun e => h e.symm
 rw [e]
 by_cases h : b = c <;> simp [h]
theorem split_cut : ∀ s : List UInt8, Lib.splitK [32] 0 (Lib.count s [32]) s = tCut s
 | [] => rfl
 | b :: l => by
  have ih := split_cut l
  unfold tCut
  by_cases hb : b = 32
  ·subst hb
   rw [Lib.count_cons_eq, if_pos rfl, Nat.add_comm]
   show (if Lib.index (32 :: l) [32] == -1 then _ else _) = _
   rw [index_one, if_pos rfl]
   show [] :: Lib.splitK [32] 0 (Lib.count l [32]) l = _
   rw [ih]
  ·rw [if_neg hb, Lib.count_cons_ne _ _ _ hb]
   rw [← ih]
   cases hk : Lib.count l [32] with
   | zero => rfl
   | succ k =>
    have hne : Lib.index l [32] ≠ -1 := fun h => by rw [Lib.count_miss h] at hk; cases hk
    have hge := Lib.index_ge l [32]
    have hne' : (Lib.index l [32] == -1) = false := by simpa using hne
    show (if Lib.index (b :: l) [32] == -1 then _ else _) = (b :: (if Lib.index l [32] == -1 then _ else _ : List (List UInt8)).headD []) :: (if Lib.index l [32] == -1 then _ else _ : List (List UInt8)).tail
    rw [index_one, if_neg hb, hne']
    simp only [Bool.false_eq_true, if_false]
    rw [if_neg (by simp; omega)]
    obtain ⟨i, hi⟩ : ∃ i : Nat, Lib.index l [32] = (i : Int) := ⟨(Lib.index l [32]).toNat, by omega⟩
    rw [hi]
    have e1 : ((i : Int) + 1).toNat = i + 1 := by omega
    have e2 : ((i : Int)).toNat = i := by omega
    rw [e1, e2]
    rfl
theorem decFrom_app : ∀ (l : List UInt8) (b : UInt8) (d acc m : Nat), Lib.decFrom acc l = some m → Lib.digitVal b = some d → Lib.decFrom acc (l ++ [b]) = some (m * 10 + d)
 | [], b, d, acc, m, h, hd => by
  simp only [Lib.decFrom] at h
  injection h with h
  subst h
  simp [Lib.decFrom, hd]
 | c :: l, b, d, acc, m, h, hd => by
  simp only [List.cons_append, Lib.decFrom] at h ⊢
  cases hc : Lib.digitVal c with
  | none => rw [hc] at h; cases h
  | some x =>
   rw [hc] at h
   exact decFrom_app l b d _ m h hd
theorem digit_fin : ∀ k : Fin 10, Lib.digitVal (UInt8.ofNat (48 + k.val)) = some k.val ∧ 48 ≤ (UInt8.ofNat (48 + k.val)).toNat ∧ (UInt8.ofNat (48 + k.val)).toNat ≤ 57 := by decide +kernel
theorem digit_of {k : Nat} (h : k < 10) : Lib.digitVal (UInt8.ofNat (48 + k)) = some k ∧ 48 ≤ (UInt8.ofNat (48 + k)).toNat ∧ (UInt8.ofNat (48 + k)).toNat ≤ 57 := digit_fin ⟨k, h⟩
theorem dec_parts (u : Nat) : Lib.decFrom 0 (Lib.decDigits u) = some u ∧ (∀ c ∈ Lib.decDigits u, 48 ≤ c.toNat ∧ c.toNat ≤ 57) ∧ Lib.decDigits u ≠ [] := by
 induction u using Nat.strongRecOn with
 | _ u ih =>
  rw [Lib.decDigits]
  by_cases h : u < 10
  ·rw [dif_pos h]
   obtain ⟨a, b, c⟩ := digit_of h
   refine ⟨?_, fun x hx => by rw [List.mem_singleton.1 hx]; exact ⟨b, c⟩, by simp⟩
   unfold Lib.decFrom
   rw [a]
   simp [Lib.decFrom]
  ·rw [dif_neg h]
   obtain ⟨a, b, c⟩ := ih (u / 10) (by omega)
   obtain ⟨a', b', c'⟩ := digit_of (show u % 10 < 10 by omega)
   refine ⟨?_, fun x hx => ?_, by simp⟩
   ·rw [decFrom_app _ _ _ _ _ a a']
    congr 1
    omega
   ·rcases List.mem_append.1 hx with hx | hx
    ·exact b x hx
    ·rw [List.mem_singleton.1 hx]; exact ⟨b', c'⟩
theorem dec_len : ∀ (k u : Nat), u < 10 ^ (k + 1) → (Lib.decDigits u).length ≤ k + 1
 | 0, u, h => by
  rw [Lib.decDigits, dif_pos (by omega)]
  exact Nat.le_refl _
 | k + 1, u, h => by
  rw [Lib.decDigits]
  split
  ·show 1 ≤ _; omega
  ·rw [List.length_append]
   have := dec_len k (u / 10) (by rw [Nat.pow_succ] at h; omega)
   show _ + 1 ≤ _
   omega
theorem itoa_nat (u : Nat) : Lib.itoa (u : Int) = Lib.decDigits u := by
 unfold Lib.itoa
 rw [if_neg (by omega)]
 rfl
theorem num_itoa {n : Int} (h0 : 0 ≤ n) (h1 : n ≤ 60000) : Lib.atoiAll (Lib.itoa n) = .ok n := by
 obtain ⟨u, rfl⟩ : ∃ u : Nat, n = u := ⟨n.toNat, by omega⟩
 rw [itoa_nat]
 obtain ⟨a, b, c⟩ := dec_parts u
 have hl := dec_len 4 u (by omega)
 rw [Lib.atoiAll_short _ (by omega)]
 cases hd : Lib.decDigits u with
 | nil => exact absurd hd c
 | cons x r =>
  rw [hd] at a b
  have hx := b x List.mem_cons_self
  have h45 : (x == 45) = false := by
   rw [beq_eq_false_iff_ne]
   intro e
   rw [e] at hx
   exact absurd hx.1 (by decide)
  have h43 : (x == 43) = false := by
   rw [beq_eq_false_iff_ne]
   intro e
   rw [e] at hx
   exact absurd hx.1 (by decide)
  unfold Lib.atoi
  simp only [h45, h43, Bool.false_eq_true, if_false]
  have hn : Lib.decNat (x :: r) = some u := by
   unfold Lib.decNat
   rw [if_neg (by simp)]
   exact a
  rw [hn]
  rfl
theorem itoa_word {n : Int} (h0 : 0 ≤ n) : ∀ c ∈ Lib.itoa n, c ≠ 32 := by
 obtain ⟨u, rfl⟩ : ∃ u : Nat, n = u := ⟨n.toNat, by omega⟩
 rw [itoa_nat]
 intro c hc e
 have := (dec_parts u).2.1 c hc
 rw [e] at this
 exact absurd this.1 (by decide)
def tNum (w : List UInt8) : Option Int := match Lib.atoiAll w with
 | .ok v => if Lib.itoa v = w then some v else none
 | _ => none
theorem tNum_itoa {n : Int} (h0 : 0 ≤ n) (h1 : n ≤ 60000) : tNum (Lib.itoa n) = some n := by
 unfold tNum
 rw [num_itoa h0 h1]
 simp
theorem tNum_some {w : List UInt8} {n : Int} (h : tNum w = some n) : Lib.itoa n = w := by
 unfold tNum at h
 split at h
 ·split at h
  ·rename_i e
   injection h with h
   rw [← h]
   exact e
  ·cases h
 ·cases h
def hdig (n : Nat) : UInt8 := UInt8.ofNat (if n < 10 then 48 + n else 87 + n)
def hval (c : UInt8) : Option Nat := if 48 ≤ c.toNat ∧ c.toNat ≤ 57 then some (c.toNat - 48) else if 97 ≤ c.toNat ∧ c.toNat ≤ 102 then some (c.toNat - 87) else none
theorem hval_fin : ∀ k : Fin 16, hval (hdig k.val) = some k.val ∧ hdig k.val ≠ 32 := by decide +kernel
theorem hdig_fin : ∀ k : Fin 256, ∀ n : Fin 16, hval (UInt8.ofNat k.val) = some n.val → hdig n.val = UInt8.ofNat k.val := by decide +kernel
theorem hval_lt {c : UInt8} {n : Nat} (h : hval c = some n) : n < 16 := by
 unfold hval at h
 split at h
 ·injection h with h; omega
 ·split at h
  ·injection h with h; omega
  ·cases h
theorem hval_hdig {n : Nat} (h : n < 16) : hval (hdig n) = some n := (hval_fin ⟨n, h⟩).1
theorem hdig_hval {c : UInt8} {n : Nat} (h : hval c = some n) : hdig n = c := by
 have e : UInt8.ofNat c.toNat = c := by simp
 have := hdig_fin ⟨c.toNat, c.toNat_lt⟩ ⟨n, hval_lt h⟩
 simp only [e] at this
 exact this h
def hexOf (b : List UInt8) : List UInt8 := if b = [] then [45] else b.flatMap fun c => [hdig (c.toNat / 16), hdig (c.toNat % 16)]
def unpair : List UInt8 → Option (List UInt8)
 | [] => some []
 | [_] => none
 | a :: b :: l => match hval a, hval b, unpair l with
  | some x, some y, some r => some (UInt8.ofNat (16 * x + y) :: r)
  | _, _, _ => none
def unHex (w : List UInt8) : Option (List UInt8) := if w = [45] then some [] else if w = [] then none else unpair w
theorem unpair_flat : ∀ b : List UInt8, unpair (b.flatMap fun c => [hdig (c.toNat / 16), hdig (c.toNat % 16)]) = some b
 | [] => rfl
 | c :: b => by
  have hc := c.toNat_lt
  show unpair (hdig (c.toNat / 16) :: hdig (c.toNat % 16) :: (b.flatMap fun c => [hdig (c.toNat / 16), hdig (c.toNat % 16)])) = _
  unfold unpair
  rw [hval_hdig (by omega), hval_hdig (by omega), unpair_flat b]
  show some (UInt8.ofNat (16 * (c.toNat / 16) + c.toNat % 16) :: b) = _
  rw [show 16 * (c.toNat / 16) + c.toNat % 16 = c.toNat by omega]
  simp
theorem flat_unpair : ∀ (w b : List UInt8), unpair w = some b → b.flatMap (fun c => [hdig (c.toNat / 16), hdig (c.toNat % 16)]) = w
 | [], b, h => by
  unfold unpair at h
  injection h with h
  subst h
  rfl
 | [_], b, h => by
  unfold unpair at h
  cases h
 | x :: y :: l, b, h => by
  unfold unpair at h
  split at h
  ·rename_i p q r hp hq hr
   injection h with h
   subst h
   have h1 := hval_lt hp
   have h2 := hval_lt hq
   have e : (UInt8.ofNat (16 * p + q)).toNat = 16 * p + q := by
    rw [UInt8.toNat_ofNat']
    omega
   rw [List.flatMap_cons, e, flat_unpair l r hr, show (16 * p + q) / 16 = p by omega, show (16 * p + q) % 16 = q by omega, hdig_hval hp, hdig_hval hq]
   rfl
  ·cases h
theorem hex_len (b : List UInt8) : (b.flatMap fun c => [hdig (c.toNat / 16), hdig (c.toNat % 16)]).length = 2 * b.length := by
 induction b with
 | nil => rfl
 | cons c b ih =>
  rw [List.flatMap_cons, List.length_append, ih]
  simp only [List.length_cons, List.length_nil]
  omega
theorem unHex_hex (b : List UInt8) : unHex (hexOf b) = some b := by
 unfold unHex hexOf
 by_cases h : b = []
 ·rw [if_pos h, if_pos rfl, h]
 ·rw [if_neg h]
  have hl := hex_len b
  have hb : 0 < b.length := List.length_pos_iff.2 h
  rw [if_neg (fun e => by rw [e] at hl; have : (1 : Nat) = 2 * b.length := hl; omega), if_neg (fun e => by rw [e] at hl; have : (0 : Nat) = 2 * b.length := hl; omega), unpair_flat]
theorem hex_unHex {w b : List UInt8} (h : unHex w = some b) : hexOf b = w := by
 unfold unHex at h
 split at h
 ·rename_i e
  injection h with h
  rw [← h, e]
  rfl
 ·split at h
  ·cases h
  ·rename_i h1 h2
   have hf := flat_unpair w b h
   unfold hexOf
   rw [if_neg]
   ·exact hf
   ·intro hb
    rw [hb] at hf
    exact h2 hf.symm
theorem hex_word (b : List UInt8) : ∀ c ∈ hexOf b, c ≠ 32 := by
 unfold hexOf
 split
 ·intro c hc
  rw [List.mem_singleton.1 hc]
  decide
 ·intro c hc
  obtain ⟨x, _, hx⟩ := List.mem_flatMap.1 hc
  have h1 := x.toNat_lt
  rcases List.mem_cons.1 hx with e | hx
  ·rw [e]; exact (hval_fin ⟨x.toNat / 16, by omega⟩).2
  ·rw [List.mem_singleton.1 hx]; exact (hval_fin ⟨x.toNat % 16, by omega⟩).2
def wPut : List UInt8 := [112, 117, 116]
def wDelete : List UInt8 := [100, 101, 108, 101, 116, 101]
def wPurge : List UInt8 := [112, 117, 114, 103, 101]
def tKind (w : List UInt8) : Int := if w = wPut then 1 else if w = wDelete then 2 else if w = wPurge then 3 else 0
def dZ : Ded := ⟨0, 0, 0, []⟩
def tPrint (d : Ded) : List UInt8 :=
 if d.kind = 1 then wPut ++ 32 :: (Lib.itoa d.key ++ 32 :: hexOf d.data)
 else if d.kind = 2 then wDelete ++ 32 :: Lib.itoa d.key
 else wPurge ++ 32 :: (Lib.itoa d.key ++ 32 :: Lib.itoa d.n)
def tWords (l : List (List UInt8)) : Option Ded :=
 if tKind (l.headD []) = 2 then (tNum (l.getD 1 [])).map fun k => ⟨2, k, 0, []⟩
 else if tKind (l.headD []) = 1 then (tNum (l.getD 1 [])).bind fun k => (unHex (l.getD 2 [])).map fun b => ⟨1, k, 0, b⟩
 else (tNum (l.getD 1 [])).bind fun k => (tNum (l.getD 2 [])).map fun n => ⟨3, k, n, []⟩
def tParse (s : List UInt8) : Ded × Int :=
 if tKind ((tCut s).headD []) = 0 then (dZ, 1)
 else if (tCut s).length ≠ (if tKind ((tCut s).headD []) = 2 then 2 else 3) then (dZ, 2)
 else match tWords (tCut s) with
  | none => (dZ, 2)
  | some d => if mWrong d ≠ 0 then (dZ, mWrong d) else (d, 0)
theorem words_ok : (∀ c ∈ wPut, c ≠ 32) ∧ (∀ c ∈ wDelete, c ≠ 32) ∧ (∀ c ∈ wPurge, c ≠ 32) := by decide
theorem kinds_ok : tKind wPut = 1 ∧ tKind wDelete = 2 ∧ tKind wPurge = 3 := by decide
theorem parse_print {d : Ded} (h : mWrong d = 0) : tParse (tPrint d) = (d, 0) := by
 obtain ⟨hk, k0, k1, hn, hn0, hl, hd⟩ := mWrong_zero h
 obtain ⟨w1, w2, w3⟩ := words_ok
 obtain ⟨q1, q2, q3⟩ := kinds_ok
 obtain ⟨dk, dy, dn, db⟩ := d
 simp only at hk k0 k1 hn hn0 hl hd
 rcases hk with rfl | rfl | rfl
 ·have hn' := hn0 (by omega)
  subst hn'
  have ec : tCut (tPrint ⟨1, dy, 0, db⟩) = [wPut, Lib.itoa dy, hexOf db] := by
   show tCut (wPut ++ 32 :: (Lib.itoa dy ++ 32 :: hexOf db)) = _
   rw [cut_app w1, cut_app (itoa_word (by omega)), cut_word (hex_word db)]
  have ew : tWords [wPut, Lib.itoa dy, hexOf db] = some ⟨1, dy, 0, db⟩ := by
   unfold tWords
   show (if tKind wPut = 2 then _ else if tKind wPut = 1 then (tNum (Lib.itoa dy)).bind (fun k => (unHex (hexOf db)).map fun b => (⟨1, k, 0, b⟩ : Ded)) else _) = _
   rw [q1, if_neg (by decide), if_pos rfl, tNum_itoa (by omega) (by omega), unHex_hex]
   rfl
  unfold tParse
  rw [ec]
  show (if tKind wPut = 0 then _ else if (3 : Nat) ≠ (if tKind wPut = 2 then 2 else 3) then _ else _) = _
  rw [q1, if_neg (by decide), if_neg (by decide), ew]
  show (if mWrong _ ≠ 0 then _ else _) = _
  rw [if_neg (by rw [h]; simp)]
 ·have hn' := hn0 (by omega)
  have hd' := hd (by omega)
  subst hn' hd'
  have ec : tCut (tPrint ⟨2, dy, 0, []⟩) = [wDelete, Lib.itoa dy] := by
   show tCut (wDelete ++ 32 :: Lib.itoa dy) = _
   rw [cut_app w2, cut_word (itoa_word (by omega))]
  have ew : tWords [wDelete, Lib.itoa dy] = some ⟨2, dy, 0, []⟩ := by
   unfold tWords
   show (if tKind wDelete = 2 then (tNum (Lib.itoa dy)).map (fun k => (⟨2, k, 0, []⟩ : Ded)) else _) = _
   rw [q2, if_pos rfl, tNum_itoa (by omega) (by omega)]
   rfl
  unfold tParse
  rw [ec]
  show (if tKind wDelete = 0 then _ else if (2 : Nat) ≠ (if tKind wDelete = 2 then 2 else 3) then _ else _) = _
  rw [q2, if_neg (by decide), if_neg (by decide), ew]
  show (if mWrong _ ≠ 0 then _ else _) = _
  rw [if_neg (by rw [h]; simp)]
 ·have hd' := hd (by omega)
  have hn' := hn rfl
  subst hd'
  have ec : tCut (tPrint ⟨3, dy, dn, []⟩) = [wPurge, Lib.itoa dy, Lib.itoa dn] := by
   show tCut (wPurge ++ 32 :: (Lib.itoa dy ++ 32 :: Lib.itoa dn)) = _
   rw [cut_app w3, cut_app (itoa_word (by omega)), cut_word (itoa_word (by omega))]
  have ew : tWords [wPurge, Lib.itoa dy, Lib.itoa dn] = some ⟨3, dy, dn, []⟩ := by
   unfold tWords
   show (if tKind wPurge = 2 then _ else if tKind wPurge = 1 then _ else (tNum (Lib.itoa dy)).bind (fun k => (tNum (Lib.itoa dn)).map fun n => (⟨3, k, n, []⟩ : Ded))) = _
   rw [q3, if_neg (by decide), if_neg (by decide), tNum_itoa (by omega) (by omega), tNum_itoa (by omega) (by omega)]
   rfl
  unfold tParse
  rw [ec]
  show (if tKind wPurge = 0 then _ else if (3 : Nat) ≠ (if tKind wPurge = 2 then 2 else 3) then _ else _) = _
  rw [q3, if_neg (by decide), if_neg (by decide), ew]
  show (if mWrong _ ≠ 0 then _ else _) = _
  rw [if_neg (by rw [h]; simp)]
theorem kind_cases (w : List UInt8) : (w = wPut ∧ tKind w = 1) ∨ (w = wDelete ∧ tKind w = 2) ∨ (w = wPurge ∧ tKind w = 3) ∨ tKind w = 0 := by
 unfold tKind
 by_cases h1 : w = wPut
 ·exact .inl ⟨h1, if_pos h1⟩
 ·rw [if_neg h1]
  by_cases h2 : w = wDelete
  ·exact .inr (.inl ⟨h2, if_pos h2⟩)
  ·rw [if_neg h2]
   by_cases h3 : w = wPurge
   ·exact .inr (.inr (.inl ⟨h3, if_pos h3⟩))
   ·exact .inr (.inr (.inr (if_neg h3)))
theorem print_parse {s : List UInt8} (h : (tParse s).2 = 0) : tPrint (tParse s).1 = s ∧ mWrong (tParse s).1 = 0 := by
 have hj := cut_join s
 obtain ⟨w, ws, hc⟩ := cut_cons s
 unfold tParse at h ⊢
 rw [hc] at h hj ⊢
 have hh : (w :: ws).headD [] = w := rfl
 rw [hh] at h ⊢
 by_cases k0 : tKind w = 0
 ·rw [if_pos k0] at h; cases h
 rw [if_neg k0] at h ⊢
 by_cases hl : (w :: ws).length ≠ (if tKind w = 2 then 2 else 3)
 ·rw [if_pos hl] at h; cases h
 rw [if_neg hl] at h ⊢
 cases hw : tWords (w :: ws) with
 | none => rw [hw] at h; cases h
 | some d =>
  rw [hw] at h
  simp only at h ⊢
  by_cases hm : mWrong d ≠ 0
  ·rw [if_pos hm] at h
   exact absurd h hm
  rw [if_neg hm]
  refine ⟨?_, by simpa using hm⟩
  have hl : (w :: ws).length = (if tKind w = 2 then 2 else 3) := by simpa using hl
  unfold tWords at hw
  rw [hh] at hw
  rcases kind_cases w with ⟨e, k⟩ | ⟨e, k⟩ | ⟨e, k⟩ | k
  ·rw [k, if_neg (by decide)] at hl
   rw [k, if_neg (by decide), if_pos rfl] at hw
   match ws, hl with
   | [a, b], _ =>
    simp only [List.getD_cons_succ, List.getD_cons_zero] at hw
    cases ha : tNum a with
    | none => rw [ha] at hw; cases hw
    | some y =>
     cases hb : unHex b with
     | none => rw [ha, hb] at hw; cases hw
     | some x =>
      rw [ha, hb] at hw
      injection hw with hw
      subst hw
      show wPut ++ 32 :: (Lib.itoa y ++ 32 :: hexOf x) = s
      rw [tNum_some ha, hex_unHex hb, ← hj, e]
      rfl
  ·rw [k, if_pos rfl] at hl
   rw [k, if_pos rfl] at hw
   match ws, hl with
   | [a], _ =>
    simp only [List.getD_cons_succ, List.getD_cons_zero] at hw
    cases ha : tNum a with
    | none => rw [ha] at hw; cases hw
    | some y =>
     rw [ha] at hw
     injection hw with hw
     subst hw
     show wDelete ++ 32 :: Lib.itoa y = s
     rw [tNum_some ha, ← hj, e]
     rfl
  ·rw [k, if_neg (by decide)] at hl
   rw [k, if_neg (by decide), if_neg (by decide)] at hw
   match ws, hl with
   | [a, b], _ =>
    simp only [List.getD_cons_succ, List.getD_cons_zero] at hw
    cases ha : tNum a with
    | none => rw [ha] at hw; cases hw
    | some y =>
     cases hb : tNum b with
     | none => rw [ha, hb] at hw; cases hw
     | some x =>
      rw [ha, hb] at hw
      injection hw with hw
      subst hw
      show wPurge ++ 32 :: (Lib.itoa y ++ 32 :: Lib.itoa x) = s
      rw [tNum_some ha, tNum_some hb, ← hj, e]
      rfl
  ·exact absurd k k0
theorem print_inj {d e : Ded} (hd : mWrong d = 0) (he : mWrong e = 0) (h : tPrint d = tPrint e) : d = e := by
 have h1 := parse_print hd
 rw [h, parse_print he] at h1
 injection h1 with h1
 exact h1.symm
end Go.Proofs.YtdmnmfnmaccmoaaDoor
