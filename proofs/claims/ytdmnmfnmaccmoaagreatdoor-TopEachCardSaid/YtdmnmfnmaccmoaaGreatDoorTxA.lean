/- Texts laid together: words, plain laws and walks of the program's functions (TxA). -/
import Derived.Lib.SplitLaws
import Derived.Lib.AtoiTie
import Derived.Lib.ItoaNum
import Derived.Lib.SlTrimSet
import Derived.Test.YtdmnmfnmaccmoaaGreatDoorG2
import Derived.Test.YtdmnmfnmaccmoaaGreatDoorG3
import Derived.Shelf.Lay
import Derived.Ground.NamesProg
import Derived.Shelf.Strings.BuilderK
import Derived.Shelf.Strings.SlTrimAscii
import Derived.Shelf.Strings.SplitShaped
import Derived.Shelf.Strconv.Itoa3
import Derived.Shelf.Strconv.ErrVarAll
import Derived.Lib.ConvBytes
import Derived.Laws.Strings3
import Derived.Lib.ItoaLen
import Derived.Test.YtdmnmfnmaccmoaaGreatDoorG1
import Derived.Carry
import Derived.Maps.Own
import Derived.Maps.OwnOps
import Derived.Maps.Views
/- Plain: deeds as texts (chapter 7). -/
namespace Go.Proofs.YtdmnmfnmaccmoaaGreatDoor
open Go
def tCut : List UInt8 → List (List UInt8)
 | [] => [[]]
 | c :: l => if c = 32 then [] :: tCut l else (c :: (tCut l).headD []) :: (tCut l).tail
def tJoin : List (List UInt8) → List UInt8
 | [] => []
 | [w] => w
 | w :: v :: ws => w ++ 32 :: tJoin (v :: ws)
theorem tCut_cons (c : UInt8) (l : List UInt8) : tCut (c :: l) = if c = 32 then [] :: tCut l else (c :: (tCut l).headD []) :: (tCut l).tail := rfl
theorem cut_ne (s : List UInt8) : tCut s ≠ [] := by
 cases s with
 | nil => simp [tCut]
 | cons c l => unfold tCut; split <;> simp
theorem cut_cons (s : List UInt8) : ∃ w ws, tCut s = w :: ws := by
 cases h : tCut s with
 | nil => exact absurd h (cut_ne s)
 | cons w ws => exact ⟨w, ws, rfl⟩
theorem cut_join : ∀ s, tJoin (tCut s) = s
 | [] => rfl
 | c :: l => by
  obtain ⟨w, ws, h⟩ := cut_cons l
  have ih := cut_join l
  unfold tCut
  rw [h] at ih ⊢
  split
  ·rename_i hc
   rw [hc]
   show [] ++ 32 :: tJoin (w :: ws) = _
   rw [ih]
   rfl
  ·cases ws with
   | nil => show c :: w = _; rw [← ih]; rfl
   | cons v ws =>
    show (c :: w) ++ 32 :: tJoin (v :: ws) = _
    rw [← ih]
    rfl
theorem cut_word {w : List UInt8} (h : ∀ c ∈ w, c ≠ 32) : tCut w = [w] := by
 induction w with
 | nil => rfl
 | cons c l ih =>
  have := ih fun x hx => h x (List.mem_cons_of_mem _ hx)
  rw [tCut_cons, if_neg (h c List.mem_cons_self), this]
  rfl
theorem cut_app {w : List UInt8} (h : ∀ c ∈ w, c ≠ 32) (l : List UInt8) : tCut (w ++ 32 :: l) = w :: tCut l := by
 induction w with
 | nil => show tCut (32 :: l) = _; rw [tCut_cons, if_pos rfl]
 | cons c w ih =>
  have := ih fun x hx => h x (List.mem_cons_of_mem _ hx)
  show tCut (c :: (w ++ 32 :: l)) = _
  rw [tCut_cons, if_neg (h c List.mem_cons_self), this]
  rfl
theorem index_one (b c : UInt8) (l : List UInt8) : Lib.index (b :: l) [c] = if b = c then 0 else if Lib.index l [c] == -1 then -1 else Lib.index l [c] + 1 := by
 show (if [c].isPrefixOf (b :: l) then (0 : Int) else _) = _
 have e : [c].isPrefixOf (b :: l) = decide (b = c) := by
  simp only [List.isPrefixOf, Bool.and_true]
  by_cases h : b = c
  ·rw [h]; simp
  ·rw [decide_eq_false h]
   simpa using fun e => h e.symm
 rw [e]
 by_cases h : b = c <;> simp [h]
theorem split_cut : ∀ s : List UInt8, Lib.splitK [32] 0 (Lib.count s [32]) s = tCut s
 | [] => rfl
 | b :: l => by
  have ih := split_cut l
  unfold tCut
  by_cases hb : b = 32
  ·subst hb
   rw [Lib.count_cons_eq, if_pos rfl, Nat.add_comm]
   show (if Lib.index (32 :: l) [32] == -1 then _ else _) = _
   rw [index_one, if_pos rfl]
   show [] :: Lib.splitK [32] 0 (Lib.count l [32]) l = _
   rw [ih]
  ·rw [if_neg hb, Lib.count_cons_ne _ _ _ hb]
   rw [← ih]
   cases hk : Lib.count l [32] with
   | zero => rfl
   | succ k =>
    have hne : Lib.index l [32] ≠ -1 := fun h => by rw [Lib.count_miss h] at hk; cases hk
    have hge := Lib.index_ge l [32]
    have hne' : (Lib.index l [32] == -1) = false := by simpa using hne
    show (if Lib.index (b :: l) [32] == -1 then _ else _) = (b :: (if Lib.index l [32] == -1 then _ else _ : List (List UInt8)).headD []) :: (if Lib.index l [32] == -1 then _ else _ : List (List UInt8)).tail
    rw [index_one, if_neg hb, hne']
    simp only [Bool.false_eq_true, if_false]
    rw [if_neg (by simp; omega)]
    obtain ⟨i, hi⟩ : ∃ i : Nat, Lib.index l [32] = (i : Int) := ⟨(Lib.index l [32]).toNat, by omega⟩
    rw [hi]
    have e1 : ((i : Int) + 1).toNat = i + 1 := by omega
    have e2 : ((i : Int)).toNat = i := by omega
    rw [e1, e2]
    rfl
theorem decFrom_app : ∀ (l : List UInt8) (b : UInt8) (d acc m : Nat), Lib.decFrom acc l = some m → Lib.digitVal b = some d → Lib.decFrom acc (l ++ [b]) = some (m * 10 + d)
 | [], b, d, acc, m, h, hd => by
  simp only [Lib.decFrom] at h
  injection h with h
  subst h
  simp [Lib.decFrom, hd]
 | c :: l, b, d, acc, m, h, hd => by
  simp only [List.cons_append, Lib.decFrom] at h ⊢
  cases hc : Lib.digitVal c with
  | none => rw [hc] at h; cases h
  | some x =>
   rw [hc] at h
   exact decFrom_app l b d _ m h hd
theorem digit_fin : ∀ k : Fin 10, Lib.digitVal (UInt8.ofNat (48 + k.val)) = some k.val ∧ 48 ≤ (UInt8.ofNat (48 + k.val)).toNat ∧ (UInt8.ofNat (48 + k.val)).toNat ≤ 57 := by decide +kernel
theorem digit_of {k : Nat} (h : k < 10) : Lib.digitVal (UInt8.ofNat (48 + k)) = some k ∧ 48 ≤ (UInt8.ofNat (48 + k)).toNat ∧ (UInt8.ofNat (48 + k)).toNat ≤ 57 := digit_fin ⟨k, h⟩
theorem dec_parts (u : Nat) : Lib.decFrom 0 (Lib.decDigits u) = some u ∧ (∀ c ∈ Lib.decDigits u, 48 ≤ c.toNat ∧ c.toNat ≤ 57) ∧ Lib.decDigits u ≠ [] := by
 induction u using Nat.strongRecOn with
 | _ u ih =>
  rw [Lib.decDigits]
  by_cases h : u < 10
  ·rw [dif_pos h]
   obtain ⟨a, b, c⟩ := digit_of h
   refine ⟨?_, fun x hx => by rw [List.mem_singleton.1 hx]; exact ⟨b, c⟩, by simp⟩
   unfold Lib.decFrom
   rw [a]
   simp [Lib.decFrom]
  ·rw [dif_neg h]
   obtain ⟨a, b, c⟩ := ih (u / 10) (by omega)
   obtain ⟨a', b', c'⟩ := digit_of (show u % 10 < 10 by omega)
   refine ⟨?_, fun x hx => ?_, by simp⟩
   ·rw [decFrom_app _ _ _ _ _ a a']
    congr 1
    omega
   ·rcases List.mem_append.1 hx with hx | hx
    ·exact b x hx
    ·rw [List.mem_singleton.1 hx]; exact ⟨b', c'⟩
theorem dec_len : ∀ (k u : Nat), u < 10 ^ (k + 1) → (Lib.decDigits u).length ≤ k + 1
 | 0, u, h => by
  rw [Lib.decDigits, dif_pos (by omega)]
  exact Nat.le_refl _
 | k + 1, u, h => by
  rw [Lib.decDigits]
  split
  ·show 1 ≤ _; omega
  ·rw [List.length_append]
   have := dec_len k (u / 10) (by rw [Nat.pow_succ] at h; omega)
   show _ + 1 ≤ _
   omega
theorem itoa_nat (u : Nat) : Lib.itoa (u : Int) = Lib.decDigits u := by
 unfold Lib.itoa
 rw [if_neg (by omega)]
 rfl
theorem num_itoa {n : Int} (h0 : 0 ≤ n) (h1 : n ≤ 60000) : Lib.atoiAll (Lib.itoa n) = .ok n := by
 obtain ⟨u, rfl⟩ : ∃ u : Nat, n = u := ⟨n.toNat, by omega⟩
 rw [itoa_nat]
 obtain ⟨a, b, c⟩ := dec_parts u
 have hl := dec_len 4 u (by omega)
 rw [Lib.atoiAll_short _ (by omega)]
 cases hd : Lib.decDigits u with
 | nil => exact absurd hd c
 | cons x r =>
  rw [hd] at a b
  have hx := b x List.mem_cons_self
  have h45 : (x == 45) = false := by
   rw [beq_eq_false_iff_ne]
   intro e
   rw [e] at hx
   exact absurd hx.1 (by decide)
  have h43 : (x == 43) = false := by
   rw [beq_eq_false_iff_ne]
   intro e
   rw [e] at hx
   exact absurd hx.1 (by decide)
  unfold Lib.atoi
  simp only [h45, h43, Bool.false_eq_true, if_false]
  have hn : Lib.decNat (x :: r) = some u := by
   unfold Lib.decNat
   rw [if_neg (by simp)]
   exact a
  rw [hn]
  rfl
theorem itoa_word {n : Int} (h0 : 0 ≤ n) : ∀ c ∈ Lib.itoa n, c ≠ 32 := by
 obtain ⟨u, rfl⟩ : ∃ u : Nat, n = u := ⟨n.toNat, by omega⟩
 rw [itoa_nat]
 intro c hc e
 have := (dec_parts u).2.1 c hc
 rw [e] at this
 exact absurd this.1 (by decide)
def tNum (w : List UInt8) : Option Int := match Lib.atoiAll w with
 | .ok v => if Lib.itoa v = w then some v else none
 | _ => none
theorem tNum_itoa {n : Int} (h0 : 0 ≤ n) (h1 : n ≤ 60000) : tNum (Lib.itoa n) = some n := by
 unfold tNum
 rw [num_itoa h0 h1]
 simp
theorem tNum_some {w : List UInt8} {n : Int} (h : tNum w = some n) : Lib.itoa n = w := by
 unfold tNum at h
 split at h
 ·split at h
  ·rename_i e
   injection h with h
   rw [← h]
   exact e
  ·cases h
 ·cases h
def hdig (n : Nat) : UInt8 := UInt8.ofNat (if n < 10 then 48 + n else 87 + n)
def hval (c : UInt8) : Option Nat := if 48 ≤ c.toNat ∧ c.toNat ≤ 57 then some (c.toNat - 48) else if 97 ≤ c.toNat ∧ c.toNat ≤ 102 then some (c.toNat - 87) else none
theorem hval_fin : ∀ k : Fin 16, hval (hdig k.val) = some k.val ∧ hdig k.val ≠ 32 := by decide +kernel
theorem hdig_fin : ∀ k : Fin 256, ∀ n : Fin 16, hval (UInt8.ofNat k.val) = some n.val → hdig n.val = UInt8.ofNat k.val := by decide +kernel
theorem hval_lt {c : UInt8} {n : Nat} (h : hval c = some n) : n < 16 := by
 unfold hval at h
 split at h
 ·injection h with h; omega
 ·split at h
  ·injection h with h; omega
  ·cases h
theorem hval_hdig {n : Nat} (h : n < 16) : hval (hdig n) = some n := (hval_fin ⟨n, h⟩).1
theorem hdig_hval {c : UInt8} {n : Nat} (h : hval c = some n) : hdig n = c := by
 have e : UInt8.ofNat c.toNat = c := by simp
 have := hdig_fin ⟨c.toNat, c.toNat_lt⟩ ⟨n, hval_lt h⟩
 simp only [e] at this
 exact this h
def hexOf (b : List UInt8) : List UInt8 := if b = [] then [45] else b.flatMap fun c => [hdig (c.toNat / 16), hdig (c.toNat % 16)]
def unpair : List UInt8 → Option (List UInt8)
 | [] => some []
 | [_] => none
 | a :: b :: l => match hval a, hval b, unpair l with
  | some x, some y, some r => some (UInt8.ofNat (16 * x + y) :: r)
  | _, _, _ => none
def unHex (w : List UInt8) : Option (List UInt8) := if w = [45] then some [] else if w = [] then none else unpair w
theorem unpair_flat : ∀ b : List UInt8, unpair (b.flatMap fun c => [hdig (c.toNat / 16), hdig (c.toNat % 16)]) = some b
 | [] => rfl
 | c :: b => by
  have hc := c.toNat_lt
  show unpair (hdig (c.toNat / 16) :: hdig (c.toNat % 16) :: (b.flatMap fun c => [hdig (c.toNat / 16), hdig (c.toNat % 16)])) = _
  unfold unpair
  rw [hval_hdig (by omega), hval_hdig (by omega), unpair_flat b]
  show some (UInt8.ofNat (16 * (c.toNat / 16) + c.toNat % 16) :: b) = _
  rw [show 16 * (c.toNat / 16) + c.toNat % 16 = c.toNat by omega]
  simp
theorem flat_unpair : ∀ (w b : List UInt8), unpair w = some b → b.flatMap (fun c => [hdig (c.toNat / 16), hdig (c.toNat % 16)]) = w
 | [], b, h => by
  unfold unpair at h
  injection h with h
  subst h
  rfl
 | [_], b, h => by
  unfold unpair at h
  cases h
 | x :: y :: l, b, h => by
  unfold unpair at h
  split at h
  ·rename_i p q r hp hq hr
   injection h with h
   subst h
   have h1 := hval_lt hp
   have h2 := hval_lt hq
   have e : (UInt8.ofNat (16 * p + q)).toNat = 16 * p + q := by
    rw [UInt8.toNat_ofNat']
    omega
   rw [List.flatMap_cons, e, flat_unpair l r hr, show (16 * p + q) / 16 = p by omega, show (16 * p + q) % 16 = q by omega, hdig_hval hp, hdig_hval hq]
   rfl
  ·cases h
theorem hex_len (b : List UInt8) : (b.flatMap fun c => [hdig (c.toNat / 16), hdig (c.toNat % 16)]).length = 2 * b.length := by
 induction b with
 | nil => rfl
 | cons c b ih =>
  rw [List.flatMap_cons, List.length_append, ih]
  simp only [List.length_cons, List.length_nil]
  omega
theorem unHex_hex (b : List UInt8) : unHex (hexOf b) = some b := by
 unfold unHex hexOf
 by_cases h : b = []
 ·rw [if_pos h, if_pos rfl, h]
 ·rw [if_neg h]
  have hl := hex_len b
  have hb : 0 < b.length := List.length_pos_iff.2 h
  rw [if_neg (fun e => by rw [e] at hl; have : (1 : Nat) = 2 * b.length := hl; omega), if_neg (fun e => by rw [e] at hl; have : (0 : Nat) = 2 * b.length := hl; omega), unpair_flat]
theorem hex_unHex {w b : List UInt8} (h : unHex w = some b) : hexOf b = w := by
 unfold unHex at h
 split at h
 ·rename_i e
  injection h with h
  rw [← h, e]
  rfl
 ·split at h
  ·cases h
  ·rename_i h1 h2
   have hf := flat_unpair w b h
   unfold hexOf
   rw [if_neg]
   ·exact hf
   ·intro hb
    rw [hb] at hf
    exact h2 hf.symm
theorem hex_word (b : List UInt8) : ∀ c ∈ hexOf b, c ≠ 32 := by
 unfold hexOf
 split
 ·intro c hc
  rw [List.mem_singleton.1 hc]
  decide
 ·intro c hc
  obtain ⟨x, _, hx⟩ := List.mem_flatMap.1 hc
  have h1 := x.toNat_lt
  rcases List.mem_cons.1 hx with e | hx
  ·rw [e]; exact (hval_fin ⟨x.toNat / 16, by omega⟩).2
  ·rw [List.mem_singleton.1 hx]; exact (hval_fin ⟨x.toNat % 16, by omega⟩).2
def wPut : List UInt8 := [112, 117, 116]
def wDelete : List UInt8 := [100, 101, 108, 101, 116, 101]
def wPurge : List UInt8 := [112, 117, 114, 103, 101]
def tKind (w : List UInt8) : Int := if w = wPut then 1 else if w = wDelete then 2 else if w = wPurge then 3 else 0
def dZ : Ded := ⟨0, 0, 0, []⟩
def tPrint (d : Ded) : List UInt8 :=
 if d.kind = 1 then wPut ++ 32 :: (Lib.itoa d.key ++ 32 :: hexOf d.data)
 else if d.kind = 2 then wDelete ++ 32 :: Lib.itoa d.key
 else wPurge ++ 32 :: (Lib.itoa d.key ++ 32 :: Lib.itoa d.n)
def tWords (l : List (List UInt8)) : Option Ded :=
 if tKind (l.headD []) = 2 then (tNum (l.getD 1 [])).map fun k => ⟨2, k, 0, []⟩
 else if tKind (l.headD []) = 1 then (tNum (l.getD 1 [])).bind fun k => (unHex (l.getD 2 [])).map fun b => ⟨1, k, 0, b⟩
 else (tNum (l.getD 1 [])).bind fun k => (tNum (l.getD 2 [])).map fun n => ⟨3, k, n, []⟩
def tParse (s : List UInt8) : Ded × Int :=
 if tKind ((tCut s).headD []) = 0 then (dZ, 1)
 else if (tCut s).length ≠ (if tKind ((tCut s).headD []) = 2 then 2 else 3) then (dZ, 2)
 else match tWords (tCut s) with
  | none => (dZ, 2)
  | some d => if mWrong d ≠ 0 then (dZ, mWrong d) else (d, 0)
theorem words_ok : (∀ c ∈ wPut, c ≠ 32) ∧ (∀ c ∈ wDelete, c ≠ 32) ∧ (∀ c ∈ wPurge, c ≠ 32) := by decide
theorem kinds_ok : tKind wPut = 1 ∧ tKind wDelete = 2 ∧ tKind wPurge = 3 := by decide
theorem parse_print {d : Ded} (h : mWrong d = 0) : tParse (tPrint d) = (d, 0) := by
 obtain ⟨hk, k0, k1, hn, hn0, hl, hd⟩ := mWrong_zero h
 obtain ⟨w1, w2, w3⟩ := words_ok
 obtain ⟨q1, q2, q3⟩ := kinds_ok
 obtain ⟨dk, dy, dn, db⟩ := d
 simp only at hk k0 k1 hn hn0 hl hd
 rcases hk with rfl | rfl | rfl
 ·have hn' := hn0 (by omega)
  subst hn'
  have ec : tCut (tPrint ⟨1, dy, 0, db⟩) = [wPut, Lib.itoa dy, hexOf db] := by
   show tCut (wPut ++ 32 :: (Lib.itoa dy ++ 32 :: hexOf db)) = _
   rw [cut_app w1, cut_app (itoa_word (by omega)), cut_word (hex_word db)]
  have ew : tWords [wPut, Lib.itoa dy, hexOf db] = some ⟨1, dy, 0, db⟩ := by
   unfold tWords
   show (if tKind wPut = 2 then _ else if tKind wPut = 1 then (tNum (Lib.itoa dy)).bind (fun k => (unHex (hexOf db)).map fun b => (⟨1, k, 0, b⟩ : Ded)) else _) = _
   rw [q1, if_neg (by decide), if_pos rfl, tNum_itoa (by omega) (by omega), unHex_hex]
   rfl
  unfold tParse
  rw [ec]
  show (if tKind wPut = 0 then _ else if (3 : Nat) ≠ (if tKind wPut = 2 then 2 else 3) then _ else _) = _
  rw [q1, if_neg (by decide), if_neg (by decide), ew]
  show (if mWrong _ ≠ 0 then _ else _) = _
  rw [if_neg (by rw [h]; simp)]
 ·have hn' := hn0 (by omega)
  have hd' := hd (by omega)
  subst hn' hd'
  have ec : tCut (tPrint ⟨2, dy, 0, []⟩) = [wDelete, Lib.itoa dy] := by
   show tCut (wDelete ++ 32 :: Lib.itoa dy) = _
   rw [cut_app w2, cut_word (itoa_word (by omega))]
  have ew : tWords [wDelete, Lib.itoa dy] = some ⟨2, dy, 0, []⟩ := by
   unfold tWords
   show (if tKind wDelete = 2 then (tNum (Lib.itoa dy)).map (fun k => (⟨2, k, 0, []⟩ : Ded)) else _) = _
   rw [q2, if_pos rfl, tNum_itoa (by omega) (by omega)]
   rfl
  unfold tParse
  rw [ec]
  show (if tKind wDelete = 0 then _ else if (2 : Nat) ≠ (if tKind wDelete = 2 then 2 else 3) then _ else _) = _
  rw [q2, if_neg (by decide), if_neg (by decide), ew]
  show (if mWrong _ ≠ 0 then _ else _) = _
  rw [if_neg (by rw [h]; simp)]
 ·have hd' := hd (by omega)
  have hn' := hn rfl
  subst hd'
  have ec : tCut (tPrint ⟨3, dy, dn, []⟩) = [wPurge, Lib.itoa dy, Lib.itoa dn] := by
   show tCut (wPurge ++ 32 :: (Lib.itoa dy ++ 32 :: Lib.itoa dn)) = _
   rw [cut_app w3, cut_app (itoa_word (by omega)), cut_word (itoa_word (by omega))]
  have ew : tWords [wPurge, Lib.itoa dy, Lib.itoa dn] = some ⟨3, dy, dn, []⟩ := by
   unfold tWords
   show (if tKind wPurge = 2 then _ else if tKind wPurge = 1 then _ else (tNum (Lib.itoa dy)).bind (fun k => (tNum (Lib.itoa dn)).map fun n => (⟨3, k, n, []⟩ : Ded))) = _
   rw [q3, if_neg (by decide), if_neg (by decide), tNum_itoa (by omega) (by omega), tNum_itoa (by omega) (by omega)]
   rfl
  unfold tParse
  rw [ec]
  show (if tKind wPurge = 0 then _ else if (3 : Nat) ≠ (if tKind wPurge = 2 then 2 else 3) then _ else _) = _
  rw [q3, if_neg (by decide), if_neg (by decide), ew]
  show (if mWrong _ ≠ 0 then _ else _) = _
  rw [if_neg (by rw [h]; simp)]
theorem kind_cases (w : List UInt8) : (w = wPut ∧ tKind w = 1) ∨ (w = wDelete ∧ tKind w = 2) ∨ (w = wPurge ∧ tKind w = 3) ∨ tKind w = 0 := by
 unfold tKind
 by_cases h1 : w = wPut
 ·exact .inl ⟨h1, if_pos h1⟩
 ·rw [if_neg h1]
  by_cases h2 : w = wDelete
  ·exact .inr (.inl ⟨h2, if_pos h2⟩)
  ·rw [if_neg h2]
   by_cases h3 : w = wPurge
   ·exact .inr (.inr (.inl ⟨h3, if_pos h3⟩))
   ·exact .inr (.inr (.inr (if_neg h3)))
theorem print_parse {s : List UInt8} (h : (tParse s).2 = 0) : tPrint (tParse s).1 = s ∧ mWrong (tParse s).1 = 0 := by
 have hj := cut_join s
 obtain ⟨w, ws, hc⟩ := cut_cons s
 unfold tParse at h ⊢
 rw [hc] at h hj ⊢
 have hh : (w :: ws).headD [] = w := rfl
 rw [hh] at h ⊢
 by_cases k0 : tKind w = 0
 ·rw [if_pos k0] at h; cases h
 rw [if_neg k0] at h ⊢
 by_cases hl : (w :: ws).length ≠ (if tKind w = 2 then 2 else 3)
 ·rw [if_pos hl] at h; cases h
 rw [if_neg hl] at h ⊢
 cases hw : tWords (w :: ws) with
 | none => rw [hw] at h; cases h
 | some d =>
  rw [hw] at h
  simp only at h ⊢
  by_cases hm : mWrong d ≠ 0
  ·rw [if_pos hm] at h
   exact absurd h hm
  rw [if_neg hm]
  refine ⟨?_, by simpa using hm⟩
  have hl : (w :: ws).length = (if tKind w = 2 then 2 else 3) := by simpa using hl
  unfold tWords at hw
  rw [hh] at hw
  rcases kind_cases w with ⟨e, k⟩ | ⟨e, k⟩ | ⟨e, k⟩ | k
  ·rw [k, if_neg (by decide)] at hl
   rw [k, if_neg (by decide), if_pos rfl] at hw
   match ws, hl with
   | [a, b], _ =>
    simp only [List.getD_cons_succ, List.getD_cons_zero] at hw
    cases ha : tNum a with
    | none => rw [ha] at hw; cases hw
    | some y =>
     cases hb : unHex b with
     | none => rw [ha, hb] at hw; cases hw
     | some x =>
      rw [ha, hb] at hw
      injection hw with hw
      subst hw
      show wPut ++ 32 :: (Lib.itoa y ++ 32 :: hexOf x) = s
      rw [tNum_some ha, hex_unHex hb, ← hj, e]
      rfl
  ·rw [k, if_pos rfl] at hl
   rw [k, if_pos rfl] at hw
   match ws, hl with
   | [a], _ =>
    simp only [List.getD_cons_succ, List.getD_cons_zero] at hw
    cases ha : tNum a with
    | none => rw [ha] at hw; cases hw
    | some y =>
     rw [ha] at hw
     injection hw with hw
     subst hw
     show wDelete ++ 32 :: Lib.itoa y = s
     rw [tNum_some ha, ← hj, e]
     rfl
  ·rw [k, if_neg (by decide)] at hl
   rw [k, if_neg (by decide), if_neg (by decide)] at hw
   match ws, hl with
   | [a, b], _ =>
    simp only [List.getD_cons_succ, List.getD_cons_zero] at hw
    cases ha : tNum a with
    | none => rw [ha] at hw; cases hw
    | some y =>
     cases hb : tNum b with
     | none => rw [ha, hb] at hw; cases hw
     | some x =>
      rw [ha, hb] at hw
      injection hw with hw
      subst hw
      show wPurge ++ 32 :: (Lib.itoa y ++ 32 :: Lib.itoa x) = s
      rw [tNum_some ha, tNum_some hb, ← hj, e]
      rfl
  ·exact absurd k k0
theorem print_inj {d e : Ded} (hd : mWrong d = 0) (he : mWrong e = 0) (h : tPrint d = tPrint e) : d = e := by
 have h1 := parse_print hd
 rw [h, parse_print he] at h1
 injection h1 with h1
 exact h1.symm
end Go.Proofs.YtdmnmfnmaccmoaaGreatDoor
/- The library's contracts that chapter 7 takes, laid at this program; the package-level variables that they read. -/
namespace Go.Proofs
open Go.Shelf
def Tryz.lays160_ren : Go.Shelf.Ren := ⟨fun | 160 => 62 | 232 => 90 | 231 => 89 | 227 => 91 | 234 => 93 | 233 => 92 | 236 => 95 | 235 => 94 | 228 => 115 | 271 => 117 | 151 => 116 | 197 => 106 | 120 => 145 | 152 => 144 | 260 => 133 | 137 => 157 | 119 => 158 | 224 => 136 | 225 => 135 | 217 => 134 | 266 => 151 | n => n, fun | 9 => 9 | 4 => 4 | 3 => 3 | 5 => 5 | 117 => 154 | 116 => 153 | 0 => 0 | 124 => 157 | 21 => 21 | 105 => 169 | 46 => 161 | 119 => 211 | 139 => 214 | 138 => 213 | n => n, fun | 3 => 3 | 4 => 4 | n => n⟩
theorem Tryz.lays160 : Go.Proofs.Lays.n160 Tryz.prog Tryz.lays160_ren := {
  mixed := by kernel_rfl
  f119 := Tryz.func158.trans (congrArg some (by kernel_rfl))
  f120 := Tryz.func145.trans (congrArg some (by kernel_rfl))
  f137 := Tryz.func157.trans (congrArg some (by kernel_rfl))
  f151 := Tryz.func116.trans (congrArg some (by kernel_rfl))
  f152 := Tryz.func144.trans (congrArg some (by kernel_rfl))
  f160 := Tryz.func62.trans (congrArg some (by kernel_rfl))
  f197 := Tryz.func106.trans (congrArg some (by kernel_rfl))
  f217 := Tryz.func134.trans (congrArg some (by kernel_rfl))
  f224 := Tryz.func136.trans (congrArg some (by kernel_rfl))
  f225 := Tryz.func135.trans (congrArg some (by kernel_rfl))
  f227 := Tryz.func91.trans (congrArg some (by kernel_rfl))
  f228 := Tryz.func115.trans (congrArg some (by kernel_rfl))
  f231 := Tryz.func89.trans (congrArg some (by kernel_rfl))
  f232 := Tryz.func90.trans (congrArg some (by kernel_rfl))
  f233 := Tryz.func92.trans (congrArg some (by kernel_rfl))
  f234 := Tryz.func93.trans (congrArg some (by kernel_rfl))
  f235 := Tryz.func94.trans (congrArg some (by kernel_rfl))
  f236 := Tryz.func95.trans (congrArg some (by kernel_rfl))
  f260 := Tryz.func133.trans (congrArg some (by kernel_rfl))
  f266 := Tryz.func151.trans (congrArg some (by kernel_rfl))
  f271 := Tryz.func117.trans (congrArg some (by kernel_rfl))
  t0 := Tryz.underlying0
  a0 := Tryz.isAgg0
  z0 := Tryz.sizeOf0
  v0 := Tryz.zeroValue0
  t3 := Tryz.underlying3
  a3 := Tryz.isAgg3
  z3 := Tryz.sizeOf3
  v3 := Tryz.zeroValue3
  t4 := Tryz.underlying4
  a4 := Tryz.isAgg4
  z4 := Tryz.sizeOf4
  v4 := Tryz.zeroValue4
  t5 := Tryz.underlying5
  a5 := Tryz.isAgg5
  z5 := Tryz.sizeOf5
  v5 := Tryz.zeroValue5
  t9 := Tryz.underlying9
  a9 := Tryz.isAgg9
  z9 := Tryz.sizeOf9
  v9 := Tryz.zeroValue9
  t21 := Tryz.underlying21
  a21 := Tryz.isAgg21
  z21 := Tryz.sizeOf21
  v21 := Tryz.zeroValue21
  t46 := Tryz.underlying161
  a46 := Tryz.isAgg161
  z46 := Tryz.sizeOf161
  v46 := Tryz.zeroValue161
  t105 := Tryz.underlying169
  a105 := Tryz.isAgg169
  z105 := Tryz.sizeOf169
  v105 := Tryz.zeroValue169
  t116 := Tryz.underlying153
  a116 := Tryz.isAgg153
  z116 := Tryz.sizeOf153
  t117 := Tryz.underlying154
  a117 := Tryz.isAgg154
  z117 := Tryz.sizeOf154
  v117 := Tryz.zeroValue154
  t119 := Tryz.underlying211
  a119 := Tryz.isAgg211
  z119 := Tryz.sizeOf211
  t124 := Tryz.underlying157
  a124 := Tryz.isAgg157
  z124 := Tryz.sizeOf157
  v124 := Tryz.zeroValue157
  t138 := Tryz.underlying213
  a138 := Tryz.isAgg213
  z138 := Tryz.sizeOf213
  v138 := Tryz.zeroValue213
  t139 := Tryz.underlying214
  a139 := Tryz.isAgg214
  z139 := Tryz.sizeOf214
  v139 := Tryz.zeroValue214
  g3 := by kernel_rfl
  g4 := by kernel_rfl }
def Tryz.lays146_ren : Go.Shelf.Ren := ⟨fun | 146 => 33 | 221 => 59 | 268 => 83 | 138 => 84 | 143 => 85 | 195 => 105 | 197 => 106 | 218 => 107 | 219 => 108 | 260 => 133 | 217 => 134 | 225 => 135 | 224 => 136 | 267 => 137 | 266 => 151 | 314 => 152 | n => n, fun | 9 => 9 | 31 => 62 | 3 => 3 | 4 => 4 | 0 => 0 | 105 => 169 | 21 => 21 | 5 => 5 | 46 => 161 | 119 => 211 | 139 => 214 | 138 => 213 | 146 => 215 | 51 => 191 | n => n, fun | 1 => 0 | 3 => 3 | 4 => 4 | n => n⟩
theorem Tryz.lays146 : Go.Proofs.Lays.n146 Tryz.prog Tryz.lays146_ren := {
  mixed := by kernel_rfl
  f138 := Tryz.func84.trans (congrArg some (by kernel_rfl))
  f143 := Tryz.func85.trans (congrArg some (by kernel_rfl))
  f146 := Tryz.func33.trans (congrArg some (by kernel_rfl))
  f195 := Tryz.func105.trans (congrArg some (by kernel_rfl))
  f197 := Tryz.func106.trans (congrArg some (by kernel_rfl))
  f217 := Tryz.func134.trans (congrArg some (by kernel_rfl))
  f218 := Tryz.func107.trans (congrArg some (by kernel_rfl))
  f219 := Tryz.func108.trans (congrArg some (by kernel_rfl))
  f221 := Tryz.func59.trans (congrArg some (by kernel_rfl))
  f224 := Tryz.func136.trans (congrArg some (by kernel_rfl))
  f225 := Tryz.func135.trans (congrArg some (by kernel_rfl))
  f260 := Tryz.func133.trans (congrArg some (by kernel_rfl))
  f266 := Tryz.func151.trans (congrArg some (by kernel_rfl))
  f267 := Tryz.func137.trans (congrArg some (by kernel_rfl))
  f268 := Tryz.func83.trans (congrArg some (by kernel_rfl))
  f314 := Tryz.func152.trans (congrArg some (by kernel_rfl))
  t0 := Tryz.underlying0
  a0 := Tryz.isAgg0
  z0 := Tryz.sizeOf0
  v0 := Tryz.zeroValue0
  t3 := Tryz.underlying3
  a3 := Tryz.isAgg3
  z3 := Tryz.sizeOf3
  v3 := Tryz.zeroValue3
  t4 := Tryz.underlying4
  a4 := Tryz.isAgg4
  z4 := Tryz.sizeOf4
  v4 := Tryz.zeroValue4
  t5 := Tryz.underlying5
  a5 := Tryz.isAgg5
  z5 := Tryz.sizeOf5
  v5 := Tryz.zeroValue5
  t9 := Tryz.underlying9
  a9 := Tryz.isAgg9
  z9 := Tryz.sizeOf9
  v9 := Tryz.zeroValue9
  t21 := Tryz.underlying21
  a21 := Tryz.isAgg21
  z21 := Tryz.sizeOf21
  v21 := Tryz.zeroValue21
  t31 := Tryz.underlying62
  a31 := Tryz.isAgg62
  z31 := Tryz.sizeOf62
  v31 := Tryz.zeroValue62
  t46 := Tryz.underlying161
  a46 := Tryz.isAgg161
  z46 := Tryz.sizeOf161
  v46 := Tryz.zeroValue161
  t51 := Tryz.underlying191
  a51 := Tryz.isAgg191
  z51 := Tryz.sizeOf191
  v51 := Tryz.zeroValue191
  t105 := Tryz.underlying169
  a105 := Tryz.isAgg169
  z105 := Tryz.sizeOf169
  v105 := Tryz.zeroValue169
  t119 := Tryz.underlying211
  a119 := Tryz.isAgg211
  z119 := Tryz.sizeOf211
  t138 := Tryz.underlying213
  a138 := Tryz.isAgg213
  z138 := Tryz.sizeOf213
  v138 := Tryz.zeroValue213
  t139 := Tryz.underlying214
  a139 := Tryz.isAgg214
  z139 := Tryz.sizeOf214
  v139 := Tryz.zeroValue214
  t146 := Tryz.underlying215
  a146 := Tryz.isAgg215
  z146 := Tryz.sizeOf215
  v146 := Tryz.zeroValue215
  g1 := by kernel_rfl
  g3 := by kernel_rfl
  g4 := by kernel_rfl }
def Tryz.lays171_ren : Go.Shelf.Ren := ⟨fun | 171 => 61 | 243 => 88 | 246 => 114 | 283 => 140 | 284 => 141 | 285 => 142 | 286 => 143 | 129 => 129 | 317 => 153 | 318 => 154 | 319 => 155 | 320 => 156 | 337 => 160 | 338 => 161 | n => n, fun | 3 => 3 | 9 => 9 | 2 => 2 | 4 => 4 | 171 => 200 | 0 => 0 | 53 => 125 | 37 => 22 | 5 => 5 | 173 => 202 | 212 => 222 | 51 => 191 | 20 => 20 | 213 => 223 | 46 => 161 | 232 => 228 | 233 => 229 | n => n, fun | 17 => 5 | 18 => 6 | 19 => 7 | n => n⟩
theorem Tryz.lays171 : Go.Proofs.LaysM.n171 Tryz.prog Tryz.lays171_ren := {
  mixed := by kernel_rfl
  f129 := Tryz.func129.trans (congrArg some (by kernel_rfl))
  f171 := Tryz.func61.trans (congrArg some (by kernel_rfl))
  f243 := Tryz.func88.trans (congrArg some (by kernel_rfl))
  f246 := Tryz.func114.trans (congrArg some (by kernel_rfl))
  f283 := Tryz.func140.trans (congrArg some (by kernel_rfl))
  f284 := Tryz.func141.trans (congrArg some (by kernel_rfl))
  f285 := Tryz.func142.trans (congrArg some (by kernel_rfl))
  f286 := Tryz.func143.trans (congrArg some (by kernel_rfl))
  f317 := Tryz.func153.trans (congrArg some (by kernel_rfl))
  f318 := Tryz.func154.trans (congrArg some (by kernel_rfl))
  f319 := Tryz.func155.trans (congrArg some (by kernel_rfl))
  f320 := Tryz.func156.trans (congrArg some (by kernel_rfl))
  f337 := Tryz.func160.trans (congrArg some (by kernel_rfl))
  f338 := Tryz.func161.trans (congrArg some (by kernel_rfl))
  t0 := Tryz.underlying0
  a0 := Tryz.isAgg0
  z0 := Tryz.sizeOf0
  v0 := Tryz.zeroValue0
  t2 := Tryz.underlying2
  a2 := Tryz.isAgg2
  z2 := Tryz.sizeOf2
  v2 := Tryz.zeroValue2
  t3 := Tryz.underlying3
  a3 := Tryz.isAgg3
  z3 := Tryz.sizeOf3
  v3 := Tryz.zeroValue3
  t4 := Tryz.underlying4
  a4 := Tryz.isAgg4
  z4 := Tryz.sizeOf4
  v4 := Tryz.zeroValue4
  t5 := Tryz.underlying5
  a5 := Tryz.isAgg5
  z5 := Tryz.sizeOf5
  v5 := Tryz.zeroValue5
  t9 := Tryz.underlying9
  a9 := Tryz.isAgg9
  z9 := Tryz.sizeOf9
  v9 := Tryz.zeroValue9
  t20 := Tryz.underlying20
  a20 := Tryz.isAgg20
  z20 := Tryz.sizeOf20
  v20 := Tryz.zeroValue20
  t37 := Tryz.underlying22
  a37 := Tryz.isAgg22
  z37 := Tryz.sizeOf22
  v37 := Tryz.zeroValue22
  t46 := Tryz.underlying161
  a46 := Tryz.isAgg161
  z46 := Tryz.sizeOf161
  v46 := Tryz.zeroValue161
  t51 := Tryz.underlying191
  a51 := Tryz.isAgg191
  z51 := Tryz.sizeOf191
  v51 := Tryz.zeroValue191
  t53 := Tryz.underlying125
  a53 := Tryz.isAgg125
  z53 := Tryz.sizeOf125
  v53 := Tryz.zeroValue125
  t171 := Tryz.underlying200
  a171 := Tryz.isAgg200
  z171 := Tryz.sizeOf200
  v171 := Tryz.zeroValue200
  t173 := Tryz.underlying202
  a173 := Tryz.isAgg202
  z173 := Tryz.sizeOf202
  v173 := Tryz.zeroValue202
  t212 := Tryz.underlying222
  a212 := Tryz.isAgg222
  z212 := Tryz.sizeOf222
  v212 := Tryz.zeroValue222
  t213 := Tryz.underlying223
  a213 := Tryz.isAgg223
  z213 := Tryz.sizeOf223
  t232 := Tryz.underlying228
  a232 := Tryz.isAgg228
  z232 := Tryz.sizeOf228
  v232 := Tryz.zeroValue228
  t233 := Tryz.underlying229
  a233 := Tryz.isAgg229
  z233 := Tryz.sizeOf229
  v233 := Tryz.zeroValue229
  g17 := by kernel_rfl
  g18 := by kernel_rfl
  g19 := by kernel_rfl
  i0 := by kernel_rfl
  i2 := by kernel_rfl
  i3 := by kernel_rfl
  i4 := by kernel_rfl
  i5 := by kernel_rfl
  i9 := by kernel_rfl
  i20 := by kernel_rfl
  i37 := by kernel_rfl
  i46 := by kernel_rfl
  i51 := by kernel_rfl
  i53 := by kernel_rfl
  i171 := by kernel_rfl
  i173 := by kernel_rfl
  i212 := by kernel_rfl
  i232 := by kernel_rfl
  i233 := by kernel_rfl
  m17 := by kernel_rfl
  m18 := by kernel_rfl
  m19 := by kernel_rfl }
def Tryz.lays172_ren : Go.Shelf.Ren := ⟨fun | 172 => 60 | 244 => 86 | 245 => 87 | 247 => 109 | 279 => 110 | 280 => 111 | 281 => 112 | 282 => 113 | 287 => 96 | 316 => 138 | 171 => 61 | 205 => 139 | 321 => 118 | 322 => 119 | 243 => 88 | 246 => 114 | 283 => 140 | 284 => 141 | 285 => 142 | 286 => 143 | 129 => 129 | 317 => 153 | 318 => 154 | 319 => 155 | 320 => 156 | 337 => 160 | 338 => 161 | n => n, fun | 9 => 9 | 3 => 3 | 75 => 120 | 76 => 121 | 4 => 4 | 5 => 5 | 167 => 172 | 37 => 22 | 0 => 0 | 85 => 173 | 2 => 2 | 168 => 175 | 53 => 125 | 175 => 126 | 46 => 161 | 210 => 198 | 127 => 217 | 145 => 220 | 143 => 218 | 21 => 21 | 171 => 200 | 173 => 202 | 212 => 222 | 51 => 191 | 20 => 20 | 213 => 223 | 232 => 228 | 233 => 229 | 80 => 230 | n => n, fun | 15 => 1 | 16 => 2 | 17 => 5 | 18 => 6 | 19 => 7 | n => n⟩
theorem Tryz.lays172 : Go.Proofs.LaysC.n172 Tryz.prog Tryz.lays172_ren := {
  mixed := by kernel_rfl
  f129 := Tryz.func129.trans (congrArg some (by kernel_rfl))
  f171 := Tryz.func61.trans (congrArg some (by kernel_rfl))
  f172 := Tryz.func60.trans (congrArg some (by kernel_rfl))
  f205 := Tryz.func139.trans (congrArg some (by kernel_rfl))
  f243 := Tryz.func88.trans (congrArg some (by kernel_rfl))
  f244 := Tryz.func86.trans (congrArg some (by kernel_rfl))
  f245 := Tryz.func87.trans (congrArg some (by kernel_rfl))
  f246 := Tryz.func114.trans (congrArg some (by kernel_rfl))
  f247 := Tryz.func109.trans (congrArg some (by kernel_rfl))
  f279 := Tryz.func110.trans (congrArg some (by kernel_rfl))
  f280 := Tryz.func111.trans (congrArg some (by kernel_rfl))
  f281 := Tryz.func112.trans (congrArg some (by kernel_rfl))
  f282 := Tryz.func113.trans (congrArg some (by kernel_rfl))
  f283 := Tryz.func140.trans (congrArg some (by kernel_rfl))
  f284 := Tryz.func141.trans (congrArg some (by kernel_rfl))
  f285 := Tryz.func142.trans (congrArg some (by kernel_rfl))
  f286 := Tryz.func143.trans (congrArg some (by kernel_rfl))
  f287 := Tryz.func96.trans (congrArg some (by kernel_rfl))
  f316 := Tryz.func138.trans (congrArg some (by kernel_rfl))
  f317 := Tryz.func153.trans (congrArg some (by kernel_rfl))
  f318 := Tryz.func154.trans (congrArg some (by kernel_rfl))
  f319 := Tryz.func155.trans (congrArg some (by kernel_rfl))
  f320 := Tryz.func156.trans (congrArg some (by kernel_rfl))
  f321 := Tryz.func118.trans (congrArg some (by kernel_rfl))
  f322 := Tryz.func119.trans (congrArg some (by kernel_rfl))
  f337 := Tryz.func160.trans (congrArg some (by kernel_rfl))
  f338 := Tryz.func161.trans (congrArg some (by kernel_rfl))
  t0 := Tryz.underlying0
  a0 := Tryz.isAgg0
  z0 := Tryz.sizeOf0
  v0 := Tryz.zeroValue0
  t2 := Tryz.underlying2
  a2 := Tryz.isAgg2
  z2 := Tryz.sizeOf2
  v2 := Tryz.zeroValue2
  t3 := Tryz.underlying3
  a3 := Tryz.isAgg3
  z3 := Tryz.sizeOf3
  v3 := Tryz.zeroValue3
  t4 := Tryz.underlying4
  a4 := Tryz.isAgg4
  z4 := Tryz.sizeOf4
  v4 := Tryz.zeroValue4
  t5 := Tryz.underlying5
  a5 := Tryz.isAgg5
  z5 := Tryz.sizeOf5
  v5 := Tryz.zeroValue5
  t9 := Tryz.underlying9
  a9 := Tryz.isAgg9
  z9 := Tryz.sizeOf9
  v9 := Tryz.zeroValue9
  t20 := Tryz.underlying20
  a20 := Tryz.isAgg20
  z20 := Tryz.sizeOf20
  v20 := Tryz.zeroValue20
  t21 := Tryz.underlying21
  a21 := Tryz.isAgg21
  z21 := Tryz.sizeOf21
  v21 := Tryz.zeroValue21
  t37 := Tryz.underlying22
  a37 := Tryz.isAgg22
  z37 := Tryz.sizeOf22
  v37 := Tryz.zeroValue22
  t46 := Tryz.underlying161
  a46 := Tryz.isAgg161
  z46 := Tryz.sizeOf161
  v46 := Tryz.zeroValue161
  t51 := Tryz.underlying191
  a51 := Tryz.isAgg191
  z51 := Tryz.sizeOf191
  v51 := Tryz.zeroValue191
  t53 := Tryz.underlying125
  a53 := Tryz.isAgg125
  z53 := Tryz.sizeOf125
  v53 := Tryz.zeroValue125
  t75 := Tryz.underlying120
  a75 := Tryz.isAgg120
  z75 := Tryz.sizeOf120
  v75 := Tryz.zeroValue120
  t76 := Tryz.underlying121
  a76 := Tryz.isAgg121
  z76 := Tryz.sizeOf121
  v76 := Tryz.zeroValue121
  t85 := Tryz.underlying173
  a85 := Tryz.isAgg173
  z85 := Tryz.sizeOf173
  v85 := Tryz.zeroValue173
  t127 := Tryz.underlying217
  a127 := Tryz.isAgg217
  z127 := Tryz.sizeOf217
  v127 := Tryz.zeroValue217
  t143 := Tryz.underlying218
  a143 := Tryz.isAgg218
  z143 := Tryz.sizeOf218
  v143 := Tryz.zeroValue218
  t145 := Tryz.underlying220
  a145 := Tryz.isAgg220
  z145 := Tryz.sizeOf220
  v145 := Tryz.zeroValue220
  t167 := Tryz.underlying172
  a167 := Tryz.isAgg172
  z167 := Tryz.sizeOf172
  v167 := Tryz.zeroValue172
  t168 := Tryz.underlying175
  a168 := Tryz.isAgg175
  z168 := Tryz.sizeOf175
  v168 := Tryz.zeroValue175
  t171 := Tryz.underlying200
  a171 := Tryz.isAgg200
  z171 := Tryz.sizeOf200
  v171 := Tryz.zeroValue200
  t173 := Tryz.underlying202
  a173 := Tryz.isAgg202
  z173 := Tryz.sizeOf202
  v173 := Tryz.zeroValue202
  t175 := Tryz.underlying126
  a175 := Tryz.isAgg126
  z175 := Tryz.sizeOf126
  v175 := Tryz.zeroValue126
  t210 := Tryz.underlying198
  a210 := Tryz.isAgg198
  z210 := Tryz.sizeOf198
  v210 := Tryz.zeroValue198
  t212 := Tryz.underlying222
  a212 := Tryz.isAgg222
  z212 := Tryz.sizeOf222
  v212 := Tryz.zeroValue222
  t213 := Tryz.underlying223
  a213 := Tryz.isAgg223
  z213 := Tryz.sizeOf223
  t232 := Tryz.underlying228
  a232 := Tryz.isAgg228
  z232 := Tryz.sizeOf228
  v232 := Tryz.zeroValue228
  t233 := Tryz.underlying229
  a233 := Tryz.isAgg229
  z233 := Tryz.sizeOf229
  v233 := Tryz.zeroValue229
  g15 := by kernel_rfl
  g16 := by kernel_rfl
  g17 := by kernel_rfl
  g18 := by kernel_rfl
  g19 := by kernel_rfl
  t80 := Tryz.underlying230
  a80 := Tryz.isAgg230
  z80 := Tryz.sizeOf230
  v80 := Tryz.zeroValue230
  i0 := by kernel_rfl
  i2 := by kernel_rfl
  i3 := by kernel_rfl
  i4 := by kernel_rfl
  i5 := by kernel_rfl
  i9 := by kernel_rfl
  i20 := by kernel_rfl
  i21 := by kernel_rfl
  i37 := by kernel_rfl
  i46 := by kernel_rfl
  i51 := by kernel_rfl
  i53 := by kernel_rfl
  i75 := by kernel_rfl
  i76 := by kernel_rfl
  i80 := by kernel_rfl
  i85 := by kernel_rfl
  i127 := by kernel_rfl
  i143 := by kernel_rfl
  i145 := by kernel_rfl
  i167 := by kernel_rfl
  i168 := by kernel_rfl
  i171 := by kernel_rfl
  i173 := by kernel_rfl
  i175 := by kernel_rfl
  i210 := by kernel_rfl
  i212 := by kernel_rfl
  i232 := by kernel_rfl
  i233 := by kernel_rfl
  m15 := by kernel_rfl
  m16 := by kernel_rfl
  m17 := by kernel_rfl
  m18 := by kernel_rfl
  m19 := by kernel_rfl
  c0 := by kernel_rfl
  c2 := by kernel_rfl
  c3 := by kernel_rfl
  c4 := by kernel_rfl
  c5 := by kernel_rfl
  c9 := by kernel_rfl
  c20 := by kernel_rfl
  c21 := by kernel_rfl
  c37 := by kernel_rfl
  c46 := by kernel_rfl
  c51 := by kernel_rfl
  c53 := by kernel_rfl
  c75 := by kernel_rfl
  c76 := by kernel_rfl
  c80 := by kernel_rfl
  c85 := by kernel_rfl
  c127 := by kernel_rfl
  c143 := by kernel_rfl
  c145 := by kernel_rfl
  c167 := by kernel_rfl
  c168 := by kernel_rfl
  c171 := by kernel_rfl
  c173 := by kernel_rfl
  c175 := by kernel_rfl
  c210 := by kernel_rfl
  c212 := by kernel_rfl
  c213 := by kernel_rfl
  c232 := by kernel_rfl
  c233 := by kernel_rfl }
end Go.Proofs
namespace Go.Proofs.YtdmnmfnmaccmoaaGreatDoor
open Go Go.RowKit
theorem var_ext {w w' : World} {n : String} {cs : Array Value} (h : w.var? Tryz.prog n = some cs) (k : Ext w w') : w'.var? Tryz.prog n = some cs := by
 unfold World.var? at h ⊢
 cases hg : Tryz.prog.globalNamed n with
 | none => rw [hg] at h; cases h
 | some g =>
  rw [hg] at h
  simp only [Option.bind_some] at h ⊢
  have hlt : g < w.heap.size := by
   rcases Nat.lt_or_ge g w.heap.size with h' | h'
   ·exact h'
   ·rw [Array.getElem?_eq_none h'] at h; cases h
  rw [k.block g hlt]
  exact h
structure VarT (w : World) : Prop where
 max : ∃ m, w.cell? ⟨0, 0, none⟩ = some (.int .i64 m)
 syn : ∃ tp p, w.var? Tryz.prog "strconv.ErrSyntax" = some #[.iface tp p]
 rng : ∃ tp p, w.var? Tryz.prog "strconv.ErrRange" = some #[.iface tp p]
 tab : Lib.TabIs Tryz.prog w "internal/strconv.uint64pow10" .u64 Lib.pow10Tab
theorem VarT.ext {w w' : World} (h : VarT w) (k : Ext w w') : VarT w' := by
 obtain ⟨⟨m, h1⟩, ⟨a, b, h2⟩, ⟨c, d, h3⟩, h4⟩ := h
 refine ⟨⟨m, ?_⟩, ⟨a, b, var_ext h2 k⟩, ⟨c, d, var_ext h3 k⟩, var_ext h4 k⟩
 have hlt : 0 < w.heap.size := by
  rcases Nat.lt_or_ge 0 w.heap.size with h' | h'
  ·exact h'
  ·unfold World.cell? at h1
   simp [Array.getElem?_eq_none h'] at h1
 exact (k.cell (p := ⟨0, 0, none⟩) hlt).trans h1
theorem itoa_v {n : Int} (h0 : -9223372036854775808 ≤ n) (h1 : n ≤ 9223372036854775807) {w : World} (h : VarT w) :
  Calls Tryz.prog 61 #[.int .i64 n] w fun e w' => e = .returned (.string ⟨(Lib.itoa n).toArray⟩) ∧ Ext w w' :=
 (Any.strconv_Itoa Tryz.lays171 n h0 h1 w h.tab).mono fun e w' ⟨he, k, os, hw⟩ => ⟨he, by
  subst hw
  exact ⟨rfl, rfl, rfl, by simp [Sort.grow], fun b hb => by simp only [Sort.grow]; rw [Array.getElem?_append_left (by simpa using hb)]; rfl⟩⟩
theorem atoi_v (l : List UInt8) (hl : l.length ≤ 281474976710656) {w : World} (h : VarT w) :
  Calls Tryz.prog 60 #[.string ⟨l.toArray⟩] w fun e w' => (∃ v x, e = .returned (.tuple #[.int .i64 v, x]) ∧ -9223372036854775808 ≤ v ∧ v ≤ 9223372036854775807 ∧ ((x = .nilIface ∧ Lib.atoiAll l = .ok v) ∨ (∃ t p, x = .iface t p) ∧ ∀ u, Lib.atoiAll l ≠ .ok u)) ∧ Ext w w' := by
 have hs : (⟨l.toArray⟩ : ByteArray).size = l.length := by show l.toArray.size = _; simp
 rcases ha : Lib.atoiAll l with v | _ | _
 ·refine (Any.strconv_Atoi_ok Tryz.lays172 ⟨l.toArray⟩ (by omega) v ha w).mono fun e w' ⟨he, hw⟩ => ⟨⟨v, .nilIface, he, (Lib.atoiAll_bounds ha).1, (Lib.atoiAll_bounds ha).2, .inl ⟨rfl, rfl⟩⟩, ?_⟩
  rcases hw with rfl | ⟨t, rfl⟩
  ·exact Below.refl _ _
  ·exact Lib.bytesWorld_below _ _ _
 ·obtain ⟨tp, p, hv⟩ := h.syn
  exact (Any.strconv_Atoi_syntax_var Tryz.lays172 ⟨l.toArray⟩ (by omega) ha tp p w hv).mono fun e w' ⟨N, he, _, _, hb⟩ => ⟨⟨0, _, he, by decide, by decide, .inr ⟨⟨_, _, rfl⟩, fun u hu => by cases hu⟩⟩, hb⟩
 ·obtain ⟨tp, p, hv⟩ := h.rng
  refine (Any.strconv_Atoi_range_var Tryz.lays172 ⟨l.toArray⟩ (by omega) ha tp p w hv).mono fun e w' ⟨N, he, _, _, hb⟩ => ⟨⟨_, _, he, ?_, ?_, .inr ⟨⟨_, _, rfl⟩, fun u hu => by cases hu⟩⟩, hb⟩
  all_goals unfold Lib.atoiSat; split <;> decide
end Go.Proofs.YtdmnmfnmaccmoaaGreatDoor
/- Walks of chapter 7: bytes' digits. -/
namespace Go.Proofs.YtdmnmfnmaccmoaaGreatDoor
open Go Go.RowKit
def hflat (l : List UInt8) : List UInt8 := l.flatMap fun c => [hdig (c.toNat / 16), hdig (c.toNat % 16)]
end Go.Proofs.YtdmnmfnmaccmoaaGreatDoor
/- Walks of chapter 7: two digits as a byte. -/
namespace Go.Proofs.YtdmnmfnmaccmoaaGreatDoor
open Go Go.RowKit
theorem or_fin : ∀ k : Fin 26, bits .or .u8 (97 + (k.val : Int)) 32 = 97 + (k.val : Int) := by decide +kernel
theorem or_low {x : Int} (h0 : 97 ≤ x) (h1 : x ≤ 122) : bits .or .u8 x 32 = x := by
 have := or_fin ⟨(x - 97).toNat, by omega⟩
 simp only at this
 rw [show (97 + ((x - 97).toNat : Int)) = x by omega] at this
 exact this
theorem lower_v {x : Int} (h0 : 97 ≤ x) (h1 : x ≤ 122) (w : World) :
  Calls Tryz.prog 118 #[.int .u8 x] w fun e w' => e = .returned (.int .u8 x) ∧ w' = w := by
 have hb := or_low h0 h1
 go_enter Tryz.func118, Tryz.ntmps118
 go_wp2
 go_ret
 exact ⟨rfl, rfl⟩
def twoAt (x y : Nat) : Nat → Int
 | 0 => 0
 | 1 => x
 | _ => 16 * x + y
theorem hval_cases {c : UInt8} {n : Nat} (h : hval c = some n) : (48 ≤ c.toNat ∧ c.toNat ≤ 57 ∧ n = c.toNat - 48) ∨ (97 ≤ c.toNat ∧ c.toNat ≤ 102 ∧ n = c.toNat - 87) := by
 unfold hval at h
 split at h
 ·injection h with h; exact .inl ⟨by omega, by omega, h.symm⟩
 ·split at h
  ·injection h with h; exact .inr ⟨by omega, by omega, h.symm⟩
  ·cases h
set_option maxHeartbeats 8000000 in
set_option maxRecDepth 100000 in
theorem inHex_v {c d : UInt8} {x y : Nat} (hc : hval c = some x) (hd : hval d = some y) (w : World) :
  Calls Tryz.prog 96 #[.string ⟨#[c, d]⟩, .int .i64 16, .int .i64 8] w fun e w' => e = .returned (.tuple #[.int .u64 (16 * x + y), .nilIface]) ∧ Ext w w' := by
 obtain ⟨t, ht⟩ : ∃ t : ByteArray, t = ⟨#[c, d]⟩ := ⟨_, rfl⟩
 have hts : t.size = 2 := by rw [ht]; rfl
 have htl : t.data.toList = [c, d] := by rw [ht]
 have hemp : t.toList.isEmpty = false := by
  rw [Lib.toList_data, htl]; rfl
 rw [← ht]
 clear ht
 have hcv := Lib.run_convert_string_bytes (P := Tryz.prog) w 9 22 5 t (u := .string) Tryz.underlying9 Tryz.underlying22 Tryz.underlying5
 have hB : ∀ j, j < t.size → (Lib.bytesWorld w 5 t).cell? ⟨w.heap.size, j, none⟩ = some (.int .u8 (t.data.toList.getD j 0).toNat) := fun j hj => Lib.bytesWorld_cell w 5 t j hj
 have hE : Ext w (Lib.bytesWorld w 5 t) := Lib.bytesWorld_below _ _ _
 obtain ⟨W1, hW1⟩ : ∃ W1, W1 = Lib.bytesWorld w 5 t := ⟨_, rfl⟩
 rw [← hW1] at hcv hB hE
 clear hW1
 rw [hts] at hcv
 have hB0 := hB 0 (by omega)
 have hB1 := hB 1 (by omega)
 rw [htl] at hB0 hB1
 simp only [List.getD_cons_zero, List.getD_cons_succ] at hB0 hB1
 clear hB htl
 have hmv : IntKind.u64.wrap (IntKind.u64.wrap 256 - 1) = 255 := by
  rw [IntKind.wrap_u64, IntKind.wrap_u64]
  decide
 have hx := hval_lt hc
 have hy := hval_lt hd
 have Hc := Lib.hid (hval_cases hc)
 have Hd := Lib.hid (hval_cases hd)
 clear hc hd
 go_enter Tryz.func96, Tryz.ntmps96
 go_wp2
 go_loop [12, 13, 101] (fun vu vn vi => ∃ (k : Nat) (a : Int), vu = .bool false ∧ vn = .int .u64 a ∧ vi = .int .i64 k ∧ k ≤ 2 ∧ 0 ≤ a ∧ a ≤ 255 ∧ (k < 2 → a ≤ 15) ∧ Hid (a = twoAt x y k))
  (fun _ _ vi => 2 - (intOf vi).toNat)
 case atStart => exact ⟨0, 0, rfl, rfl, rfl, by omega, by omega, by omega, fun _ => by omega, rfl⟩
 case round =>
  obtain ⟨k, a, rfl, rfl, rfl, hk, a0, a1, a2, hh⟩ := hrel
  by_cases hkn : k < 2
  ·have a3 := a2 hkn
   clear a2 a1
   obtain ⟨z, cc, hcell, Hz, hz, Hn⟩ : ∃ (z : Nat) (cc : UInt8), W1.cell? ⟨w.heap.size, k, none⟩ = some (.int .u8 cc.toNat) ∧ Hid ((48 ≤ cc.toNat ∧ cc.toNat ≤ 57 ∧ z = cc.toNat - 48) ∨ (97 ≤ cc.toNat ∧ cc.toNat ≤ 102 ∧ z = cc.toNat - 87)) ∧ z < 16 ∧ Hid (a * 16 + z = twoAt x y (k + 1)) := by
    have hh' := hh.out
    match k, hkn with
    | 0, _ => exact ⟨x, c, hB0, Hc, hx, by show _ = (x : Int); rw [hh']; simp [twoAt]⟩
    | 1, _ => exact ⟨y, d, hB1, Hd, hy, by show _ = (16 * x + y : Int); rw [hh']; simp only [twoAt]; omega⟩
   clear hB0 hB1 Hc Hd hy hh
   have hc256 : cc.toNat < 256 := cc.toNat_lt
   have HN : Hid (a * 16 + z = twoAt x y (k + 1) ∧ (k + 1 < 2 → a * 16 + z ≤ 15) ∧ 0 ≤ a * 16 + (z : Int) ∧ a * 16 + (z : Int) ≤ 255) := by
    refine ⟨Hn.out, fun h => ?_, by omega, by omega⟩
    obtain rfl : k = 0 := by omega
    rw [Hn.out]
    show (x : Int) ≤ 15
    omega
   rcases Hz.out with ⟨q0, q1, q2⟩ | ⟨q0, q1, q2⟩
   ·have q3 : (z : Int) = (cc.toNat : Int) - 48 := by omega
    rw [q3] at HN
    clear Hz q2 q3 hz Hn hx
    go_wp2
    refine ⟨⟨k + 1, _, rfl, rfl, by go_num, by omega, HN.out.2.2.1, HN.out.2.2.2, HN.out.2.1, HN.out.1⟩, by simp [intOf]; omega⟩
   ·have q3 : (z : Int) = (cc.toNat : Int) - 97 + 10 := by omega
    rw [q3] at HN
    clear Hz q2 q3 hz Hn hx
    have q1' : (cc.toNat : Int) ≤ 122 := by omega
    go_wp2_with (go_at_call 118; refine (lower_v (by omega) q1' _).mono ?_; rintro e w' ⟨rfl, rfl⟩)
    refine ⟨⟨k + 1, _, rfl, rfl, by go_num, by omega, HN.out.2.2.1, HN.out.2.2.2, HN.out.2.1, HN.out.1⟩, by simp [intOf]; omega⟩
  ·obtain rfl : k = 2 := by omega
   have e := hh.out
   clear a2 hh
   go_wp2
   go_ret2
   exact ⟨rfl, hE⟩
set_option maxHeartbeats 4000000 in
set_option maxRecDepth 100000 in
theorem hex2_v {c d : UInt8} {x y : Nat} (hc : hval c = some x) (hd : hval d = some y) (w : World) :
  Calls Tryz.prog 63 #[.string ⟨#[c, d]⟩, .int .i64 16, .int .i64 8] w fun e w' => e = .returned (.tuple #[.int .u64 (16 * x + y), .nilIface]) ∧ Ext w w' := by
 go_enter Tryz.func63, Tryz.ntmps63
 go_wp2_with (go_at_call 96; refine (inHex_v hc hd _).mono ?_; rintro e w' ⟨rfl, hE⟩)
 go_ret2
 exact ⟨rfl, hE⟩
end Go.Proofs.YtdmnmfnmaccmoaaGreatDoor
/- Walks of chapter 7: digits as bytes. -/
namespace Go.Proofs.YtdmnmfnmaccmoaaGreatDoor
open Go Go.RowKit
def hset : List UInt8 := [48, 49, 50, 51, 52, 53, 54, 55, 56, 57, 97, 98, 99, 100, 101, 102]
theorem hset_fin : ∀ k : Fin 256, hset.contains (UInt8.ofNat k.val) = (hval (UInt8.ofNat k.val)).isSome := by decide +kernel
theorem hset_val (c : UInt8) : hset.contains c = (hval c).isSome := by
 have := hset_fin ⟨c.toNat, c.toNat_lt⟩
 simpa using this
theorem dropWhile_nil (p : UInt8 → Bool) : ∀ l : List UInt8, l.dropWhile p = [] ↔ ∀ c ∈ l, p c = true
 | [] => by simp
 | c :: l => by
  rw [List.dropWhile_cons]
  by_cases h : p c = true
  ·rw [if_pos h, dropWhile_nil p l]
   simp [h]
  ·rw [if_neg h]
   simp [h]
theorem trim_hex (l : List UInt8) : Lib.trimS l hset = [] ↔ ∀ c ∈ l, (hval c).isSome = true := by
 unfold Lib.trimS Lib.trimLeftS Lib.trimRightS
 rw [dropWhile_nil]
 simp only [hset_val]
 constructor
 ·intro h
  have h2 : (l.reverse.dropWhile fun b => hset.contains b) = [] := by
   cases hd : l.reverse.dropWhile (fun b => hset.contains b) with
   | nil => rfl
   | cons x r =>
    exfalso
    have hx := h x (by simp only [hset_val] at hd; rw [hd]; simp)
    have := List.head?_dropWhile_not (fun b => hset.contains b) l.reverse
    rw [hd] at this
    simp only [List.head?_cons] at this
    rw [hset_val, hx] at this
    cases this
  rw [dropWhile_nil] at h2
  intro c hc
  have := h2 c (by simpa using hc)
  rwa [hset_val] at this
 ·intro h c hc
  exact h c (by
   have := List.dropWhile_sublist (fun b => (hval b).isSome) (l := l.reverse)
   simpa using this.subset (by simpa using hc))
def unp : List UInt8 → List UInt8
 | a :: b :: l => UInt8.ofNat (16 * (hval a).getD 0 + (hval b).getD 0) :: unp l
 | _ => []
theorem unpair_all : ∀ l : List UInt8, l.length % 2 = 0 → (∀ c ∈ l, (hval c).isSome = true) → unpair l = some (unp l)
 | [], _, _ => rfl
 | [_], h, _ => by simp at h
 | a :: b :: l, h, ha => by
  have h1 := ha a (by simp)
  have h2 := ha b (by simp)
  have ih := unpair_all l (by simp only [List.length_cons] at h; omega) fun c hc => ha c (by simp [hc])
  unfold unpair unp
  cases h3 : hval a with
  | none => rw [h3] at h1; cases h1
  | some x =>
   cases h4 : hval b with
   | none => rw [h4] at h2; cases h2
   | some y => rw [ih]; rfl
theorem unpair_bad : ∀ (l b : List UInt8), unpair l = some b → l.length % 2 = 0 ∧ ∀ c ∈ l, (hval c).isSome = true
 | [], _, _ => by simp
 | [_], _, h => by unfold unpair at h; cases h
 | a :: b :: l, r, h => by
  unfold unpair at h
  split at h
  ·rename_i x y z h1 h2 h3
   obtain ⟨q1, q2⟩ := unpair_bad l z h3
   refine ⟨by simp only [List.length_cons]; omega, fun c hc => ?_⟩
   rcases List.mem_cons.1 hc with rfl | hc
   ·rw [h1]; rfl
   ·rcases List.mem_cons.1 hc with rfl | hc
    ·rw [h2]; rfl
    ·exact q2 c hc
  ·cases h
theorem unp_succ : ∀ (k : Nat) (l : List UInt8), 2 * k + 1 < l.length → unp (l.take (2 * (k + 1))) = unp (l.take (2 * k)) ++ [UInt8.ofNat (16 * (hval (l.getD (2 * k) 0)).getD 0 + (hval (l.getD (2 * k + 1) 0)).getD 0)]
 | 0, a :: b :: l, _ => rfl
 | k + 1, a :: b :: l, h => by
  have ih := unp_succ k l (by simp only [List.length_cons] at h; omega)
  rw [show 2 * (k + 1 + 1) = 2 * (k + 1) + 1 + 1 by omega, show 2 * (k + 1) = 2 * k + 1 + 1 by omega] at *
  simp only [List.take_succ_cons, unp, List.cons_append, List.getD_cons_succ]
  rw [← ih]
 | _, [], h => by simp at h
 | _, [_], h => by simp at h
theorem cut_two {t : ByteArray} {l : List UInt8} (ht : t.data.toList = l) {j : Nat} (hj : j + 2 ≤ l.length) : t.extract j (j + 2) = ⟨#[l.getD j 0, l.getD (j + 1) 0]⟩ := by
 have e : (t.extract j (j + 2)).data.toList = [l.getD j 0, l.getD (j + 1) 0] := by
  rw [ByteArray.data_extract, Array.toList_extract, ht]
  apply List.ext_getElem?
  intro i
  rw [List.extract_eq_take_drop, show j + 2 - j = 2 by omega]
  match i with
  | 0 => simp [List.getElem?_drop, List.getElem?_eq_getElem (show j < l.length by omega)]
  | 1 => simp [List.getElem?_drop, List.getElem?_eq_getElem (show j + 1 < l.length by omega)]
  | i + 2 => simp [List.getElem?_take]; omega
 have e' : (t.extract j (j + 2)).data = #[l.getD j 0, l.getD (j + 1) 0] := Array.toList_inj.1 e
 cases hx : t.extract j (j + 2)
 rw [hx] at e'
 exact congrArg _ e'
theorem trim_v (l : List UInt8) (hl : l.length ≤ 9223372036854775807) (w : World) :
  Calls Tryz.prog 62 #[.string ⟨l.toArray⟩, .string ⟨#[48, 49, 50, 51, 52, 53, 54, 55, 56, 57, 97, 98, 99, 100, 101, 102]⟩] w fun e w' => e = .returned (.string ⟨(Lib.trimS l hset).toArray⟩) ∧ Ext w w' :=
 (Any.strings_Trim_laid Tryz.lays160 (by kernel_rfl) ⟨l.toArray⟩ ⟨#[48, 49, 50, 51, 52, 53, 54, 55, 56, 57, 97, 98, 99, 100, 101, 102]⟩ w (by show l.toArray.size ≤ _; simpa using hl) (by decide) (ascii_of_all (by decide))).mono fun _ _ ⟨he, hb⟩ => ⟨by rw [he]; rfl, hb⟩
theorem listOf (l : List UInt8) : (ByteArray.mk l.toArray).toList = l := by rw [Lib.toList_data]
theorem sizeOf_ (l : List UInt8) : (ByteArray.mk l.toArray).size = l.length := by show l.toArray.size = _; simp
set_option maxHeartbeats 8000000 in
set_option maxRecDepth 100000 in
theorem unhex_v (l : List UInt8) (hl : l.length ≤ 1000000000) (w : World) :
  Calls Tryz.prog 35 #[.string ⟨l.toArray⟩] w fun e w' => ∃ v b, e = .returned (.tuple #[v, .bool b]) ∧ Hid (b = (unHex l).isSome) ∧ ByT w' 0 v ((unHex l).getD []) ∧ Ext w w' := by
 have hsz := sizeOf_ l
 have hls := listOf l
 have hd0 : (ByteArray.mk l.toArray).data.toList = l := by simp
 have hT := trim_v l (by omega)
 obtain ⟨t, ht⟩ : ∃ t : ByteArray, t = ⟨l.toArray⟩ := ⟨_, rfl⟩
 rw [← ht] at hsz hls hT hd0 ⊢
 clear ht
 by_cases h45 : l = [45]
 ·have q : (t.toList == [45]) = true := by rw [hls, h45]; rfl
  have hr : unHex l = some [] := by unfold unHex; rw [if_pos h45]
  rw [hr]
  clear hT hls hd0 hr h45
  go_enter Tryz.func35, Tryz.ntmps35
  go_wp2
  go_ret2
  exact ⟨_, _, rfl, rfl, ByT.nil _ _, Below.refl _ _⟩
 ·have q45 : (t.toList == [45]) = false := by rw [hls]; simpa using h45
  by_cases h0 : l = []
  ·have q : t.toList.isEmpty = true := by rw [hls, h0]; rfl
   have hr : unHex l = none := by unfold unHex; rw [if_neg h45, if_pos h0]
   rw [hr]
   clear hT hls hd0 hr h45 h0
   go_enter Tryz.func35, Tryz.ntmps35
   go_wp2
   go_ret2
   exact ⟨_, _, rfl, rfl, ByT.nil _ _, Below.refl _ _⟩
  ·have q : t.toList.isEmpty = false := by rw [hls]; simpa using h0
   have hu : unHex l = unpair l := by unfold unHex; rw [if_neg h45, if_neg h0]
   rw [hu]
   by_cases h2 : l.length % 2 = 0
   ·by_cases ha : ∀ c ∈ l, (hval c).isSome = true
    ·rw [unpair_all l h2 ha]
     have hne : (ByteArray.mk (Lib.trimS l hset).toArray).toList.isEmpty = true := by
      rw [listOf, (trim_hex l).2 ha]
      rfl
     obtain ⟨r, hrr⟩ : ∃ r : ByteArray, r = ⟨(Lib.trimS l hset).toArray⟩ := ⟨_, rfl⟩
     rw [← hrr] at hT hne
     have Ha := Lib.hid ha
     have H2 := Lib.hid h2
     have HD := Lib.hid hd0
     obtain ⟨m, hm⟩ : ∃ m, m = l.length := ⟨_, rfl⟩
     have HM := Lib.hid hm
     rw [← hm] at hsz hl
     have h2' : (m : Int) % 2 = 0 := by omega
     clear hls hd0 h45 h0 hu hrr ha h2 hm
     go_enter Tryz.func35, Tryz.ntmps35
     go_wp2_with (go_at_call 62; refine (hT _).mono ?_; rintro e w1 ⟨rfl, he⟩)
     go_loopw [4, 5] (fun v i wr => ∃ j k : Nat, j ≤ m ∧ Hid (j = 2 * k) ∧ i = .int .i64 j ∧ wr.ownsRow w.heap.size 5 1 v k (u8s (unp (l.take (2 * k)))) ∧ Ext w wr) (fun _ i _ => m - (intOf i).toNat)
     case atStart => exact ⟨0, 0, Nat.zero_le _, rfl, rfl, own_nil _ _ _ _, he⟩
     case round =>
      obtain ⟨j, k, hj, Hj, rfl, hown, hd⟩ := hrel
      have hs := hd.size
      by_cases hlt : j < m
      ·have hj2 : j + 2 ≤ m := by have := Hj.out; omega
       obtain ⟨x, hx⟩ : ∃ x, hval (l.getD j 0) = some x := by
        have := Ha.out (l.getD j 0) (by have := HM.out; simp [List.getD_eq_getElem?_getD, List.getElem?_eq_getElem (show j < l.length by omega)])
        exact Option.isSome_iff_exists.1 this
       obtain ⟨y, hy⟩ : ∃ y, hval (l.getD (j + 1) 0) = some y := by
        have := Ha.out (l.getD (j + 1) 0) (by have := HM.out; simp [List.getD_eq_getElem?_getD, List.getElem?_eq_getElem (show j + 1 < l.length by omega)])
        exact Option.isSome_iff_exists.1 this
       have x1 := hval_lt hx
       have y1 := hval_lt hy
       have hsucc := Lib.hid (unp_succ k l (by have := HM.out; have := Hj.out; omega))
       have hcall := hex2_v hx hy wr
       obtain ⟨z, hz⟩ : ∃ z : Int, z = 16 * x + y := ⟨_, rfl⟩
       have HZ : Hid (unp (l.take (2 * (k + 1))) = unp (l.take (2 * k)) ++ [UInt8.ofNat (16 * x + y)] ∧ z = ((UInt8.ofNat (16 * x + y)).toNat : Int)) := by
        have e := hsucc.out
        rw [← Hj.out, hx, hy] at e
        exact ⟨by rw [← Hj.out]; exact e, by rw [hz, UInt8.toNat_ofNat']; omega⟩
       have z0 : 0 ≤ z := by omega
       have z1 : z < 256 := by omega
       have hcut := Lib.hid (cut_two HD.out (j := j) (by have := HM.out; omega))
       rw [← hz] at hcall
       rw [← hcut.out] at hcall
       clear hz hx hy hsucc x1 y1
       have hk : k ≤ 1000000000 := by have := Hj.out; omega
       have hz2 : IntKind.u8.wrap z = z := by rw [IntKind.wrap_u8]; omega
       go_wp2_with (first | (at_builtin; refine app_u8 rfl (.tmp 38) (.tmp 41) rfl w.heap.size _ k _ rfl (own_alloc (own_ext hown he2) _) _ _ 1 1 [.int .u8 z] rfl (Sl.new _ _ _ _ 1 1 rfl (by unfold maxLen; omega) (Nat.lt_succ_self _)) (by simp [Value.oneCell']) (by rw [blim_def]; omega) (by rw [size_alloc]; have := he2.size; omega) ?_; intro v7 w7 hp7 hg7 hb7 hat7) | (go_at_call 63; refine hcall.mono ?_; rintro e w2 ⟨rfl, he2⟩))
       refine ⟨⟨j + 2, k + 1, hj2, Lib.hid (by have := Hj.out; omega), by go_num, ?_, ?_⟩, by simp [intOf]; omega⟩
       ·have hp8 := hp7
        rw [show [Value.int IntKind.u8 z] = u8s [UInt8.ofNat (16 * x + y)] by show _ = [u8v _]; unfold u8v; rw [HZ.out.2], ← u8s_append, ← HZ.out.1] at hp8
        exact hp8
       ·exact hd.trans ((he2.mono hs).trans (((ext_alloc w2 _).mono (by have := he2.size; omega)).trans hb7))
      ·obtain rfl : j = m := by omega
       go_wp2
       go_ret2
       have e : l.take (2 * k) = l := List.take_of_length_le (by have := Hj.out; have := HM.out; omega)
       rw [e] at hown
       exact ⟨_, _, rfl, rfl, ByT.of_own hown, hd⟩
    ·have hr : unpair l = none := by
      cases hp : unpair l with
      | none => rfl
      | some b => exact absurd (unpair_bad l b hp).2 ha
     have hne : (ByteArray.mk (Lib.trimS l hset).toArray).toList.isEmpty = false := by
      rw [listOf]
      have := fun h => ha ((trim_hex l).1 h)
      simpa using this
     rw [hr]
     obtain ⟨r, hrr⟩ : ∃ r : ByteArray, r = ⟨(Lib.trimS l hset).toArray⟩ := ⟨_, rfl⟩
     rw [← hrr] at hT hne
     clear hls hd0 hr h45 h0 hu ha hrr
     go_enter Tryz.func35, Tryz.ntmps35
     go_wp2_with (go_at_call 62; refine (hT _).mono ?_; rintro e w1 ⟨rfl, he⟩)
     go_ret2
     exact ⟨_, _, rfl, rfl, ByT.nil _ _, he⟩
   ·have hr : unpair l = none := by
     cases hp : unpair l with
     | none => rfl
     | some b => exact absurd (unpair_bad l b hp).1 h2
    rw [hr]
    clear hT hls hd0 hr h45 h0 hu
    go_enter Tryz.func35, Tryz.ntmps35
    go_wp2
    go_ret2
    exact ⟨_, _, rfl, rfl, ByT.nil _ _, Below.refl _ _⟩
end Go.Proofs.YtdmnmfnmaccmoaaGreatDoor
/- Walks of chapter 7: a number, a deed's text. -/
namespace Go.Proofs.YtdmnmfnmaccmoaaGreatDoor
open Go Go.RowKit
theorem tNum_none {l : List UInt8} (h : ∀ u, Lib.atoiAll l ≠ .ok u) : tNum l = none := by
 unfold tNum
 split
 ·rename_i v hv
  exact absurd hv (h v)
 ·rfl
set_option maxHeartbeats 4000000 in
set_option maxRecDepth 100000 in
theorem number_v (l : List UInt8) (hl : l.length ≤ 1000000000) {w : World} (hV : VarT w) :
  Calls Tryz.prog 34 #[.string ⟨l.toArray⟩] w fun e w' => ∃ v b, e = .returned (.tuple #[.int .i64 v, .bool b]) ∧ Hid (b = (tNum l).isSome ∧ ∀ n, tNum l = some n → v = n) ∧ Ext w w' := by
 have hA := atoi_v l (by omega) hV
 have hls := listOf l
 obtain ⟨t, ht⟩ : ∃ t : ByteArray, t = ⟨l.toArray⟩ := ⟨_, rfl⟩
 rw [← ht] at hA hls ⊢
 clear ht
 go_enter Tryz.func34, Tryz.ntmps34
 go_wp2_with (go_at_call 60; refine hA.mono ?_; refine Lib.hid ?_)
 refine fun e w1 ⟨⟨v, x, he, h0, h1, hx⟩, hE⟩ => ?_
 subst he
 have hx := Lib.hid hx
 rcases hx.out with ⟨rfl, ha⟩ | ⟨⟨tp, p, rfl⟩, ha⟩
 ·have hI := itoa_v h0 h1 (hV.ext hE)
  have hT : tNum l = if Lib.itoa v = l then some v else none := by unfold tNum; rw [ha]
  have hl2 := listOf (Lib.itoa v)
  obtain ⟨r, hr⟩ : ∃ r : ByteArray, r = ⟨(Lib.itoa v).toArray⟩ := ⟨_, rfl⟩
  rw [← hr] at hI hl2
  clear hr hA
  by_cases q : Lib.itoa v = l
  ·have q' : (r.toList == t.toList) = true := by rw [hl2, hls]; simpa using q
   have HT : Hid (true = (tNum l).isSome ∧ ∀ n, tNum l = some n → v = n) := by
    rw [hT, if_pos q]
    exact ⟨rfl, fun n h => by injection h⟩
   clear hl2 hls hT q ha hx
   go_wp2_with (go_at_call 61; refine hI.mono ?_; rintro e w2 ⟨rfl, hE2⟩)
   go_ret2
   exact ⟨_, _, rfl, HT, ext_trans hE hE2⟩
  ·have q' : (r.toList == t.toList) = false := by rw [hl2, hls]; simpa using q
   have HT : Hid (false = (tNum l).isSome ∧ ∀ n, tNum l = some n → v = n) := by
    rw [hT, if_neg q]
    exact ⟨rfl, fun n h => by cases h⟩
   clear hl2 hls hT q ha hx
   go_wp2_with (go_at_call 61; refine hI.mono ?_; rintro e w2 ⟨rfl, hE2⟩)
   go_ret2
   exact ⟨_, _, rfl, HT, ext_trans hE hE2⟩
 ·have HT : Hid (false = (tNum l).isSome ∧ ∀ n, tNum l = some n → v = n) := by
   rw [tNum_none ha]
   exact ⟨rfl, fun n h => by cases h⟩
  clear hls ha hx hA
  go_wp2
  go_ret2
  exact ⟨_, _, rfl, HT, hE⟩
theorem hex_le (l : List UInt8) : (hexOf l).length ≤ 2 * l.length + 1 := by
 unfold hexOf
 split
 ·show 1 ≤ _; omega
 ·rw [hex_len]; omega
end Go.Proofs.YtdmnmfnmaccmoaaGreatDoor
/- Walks of chapter 7: the document's text of a deed. -/
namespace Go.Proofs.YtdmnmfnmaccmoaaGreatDoor
open Go Go.RowKit
theorem sizes (a : Array UInt8) : (ByteArray.mk a).size = a.size := rfl
end Go.Proofs.YtdmnmfnmaccmoaaGreatDoor
/- Walks of chapter 7: a text cut at its spaces; the map of the kinds' words. -/
namespace Go.Proofs.YtdmnmfnmaccmoaaGreatDoor
open Go Go.RowKit
def strs (l : List (List UInt8)) : List Value := l.map fun u => .string ⟨u.toArray⟩
theorem cut_len : ∀ l : List UInt8, (tCut l).length ≤ l.length + 1
 | [] => by simp [tCut]
 | c :: l => by
  have := cut_len l
  rw [tCut_cons]
  split
  ·simp; omega
  ·simp; omega
theorem cut_le : ∀ l : List UInt8, ∀ u ∈ tCut l, u.length ≤ l.length
 | [], u, h => by simp [tCut] at h; rw [h]; simp
 | c :: l, u, h => by
  have ih := cut_le l
  rw [tCut_cons] at h
  obtain ⟨a, ws, e⟩ := cut_cons l
  rw [e] at ih h
  split at h
  ·rcases List.mem_cons.1 h with rfl | h
   ·simp
   ·have := ih u h; simp; omega
  ·rcases List.mem_cons.1 h with rfl | h
   ·have := ih a (by simp); simp; exact this
   ·have := ih u (by simp at h ⊢; exact .inr h); simp; omega
theorem split_v (l : List UInt8) (hl : l.length ≤ 1000000000) {w : World} (hV : VarT w) :
  Calls Tryz.prog 33 #[.string ⟨l.toArray⟩, .string ⟨#[32]⟩] w fun e w' => e = .returned (.slice (some ⟨w.heap.size, 0, none⟩) (tCut l).length (tCut l).length) ∧ Box w' w.heap.size 9 (strs (tCut l)).toArray ∧ Ext w w' := by
 obtain ⟨m, hm⟩ := hV.max
 have hs := sizeOf_ l
 refine (Any.strings_Split Tryz.lays146 (by kernel_rfl) ⟨l.toArray⟩ ⟨#[32]⟩ m w (by omega) hm (by decide)).mono fun e w' ⟨he, hw⟩ => ?_
 have hd := Lib.splitB_data ⟨#[32]⟩ 0 (Lib.countB ⟨l.toArray⟩ ⟨#[32]⟩) ⟨l.toArray⟩
 have hk : Lib.splitK (ByteArray.mk #[32]).data.toList 0 (Lib.countB ⟨l.toArray⟩ ⟨#[32]⟩) (ByteArray.mk l.toArray).data.toList = tCut l := by
  have := split_cut l
  unfold Lib.countB
  simpa using this
 rw [hk] at hd
 have hn : Lib.countB ⟨l.toArray⟩ ⟨#[32]⟩ + 1 = (tCut l).length := by
  rw [← hd, List.length_map]
  exact (Lib.splitB_all ⟨#[32]⟩ (by decide) 0 _ ⟨l.toArray⟩ rfl).symm
 have hv : (Lib.splitB ⟨#[32]⟩ 0 (Lib.countB ⟨l.toArray⟩ ⟨#[32]⟩) ⟨l.toArray⟩).map Value.string = strs (tCut l) := by
  rw [← hd]
  unfold strs
  rw [List.map_map]
  apply List.map_congr_left
  intro b _
  cases b
  simp
 rw [hn] at he
 rw [hv] at hw
 subst hw
 exact ⟨he, Box.new _ _ _ rfl, ext_alloc _ _⟩
abbrev OwnM (w : World) (b n : Nat) (D : DataW Unit) : Prop := w.ownsMap Tryz.prog 9 (plainElem Tryz.prog 3) b n D
theorem wf_i64 {k : Int} (h0 : -9223372036854775808 ≤ k) (h1 : k ≤ 9223372036854775807) : (Lit.int .i64 k).wf = true := by
 simp [Lit.wf, IntKind.min, IntKind.max, IntKind.bits, IntKind.signed] <;> omega
theorem wpl_ins {w : World} {b n : Nat} {D : DataW Unit} {s : ByteArray} {k : Int} {ops : Array Oper} {rest : List Oper} {o : Oper} {a : Act} {Q : Exit → Act → World → Prop} (hg : o.guard = none) (m x v : Operand) (hop : o.op = Op.insert 86 m x v)
  (hm : a.eval m = .map (some b)) (h : OwnM w b n D) (hn : n < maxLen) (hx : a.eval x = .string s) (hs : s.size ≤ maxLen) (hv : a.eval v = .int .i64 k) (h0 : -9223372036854775808 ≤ k) (h1 : k ≤ 9223372036854775807)
  (hK : ∀ w', OwnM w' b (n + 1) (D.put (.string s.data.toList) (.lit (.int .i64 k))) → w.grownBy w' (some b) → wpList Tryz.prog ops Q rest (a.put o.dst undef) w') : wpList Tryz.prog ops Q (o :: rest) a w := by
 refine wpList_plain hg fun K' hK' => ?_
 obtain ⟨w', hrun, r1, r2⟩ := h.update (Maps.string_keyed Tryz.underlying9) Tryz.underlying86 hn (WideMaps.keyOf_string_mk Tryz.underlying9 hs) (plainElem_int Tryz.underlying3 (wf_i64 h0 h1))
 unfold Oper.wp
 simp [execOp, hop, hm, hx, hv, hrun, Result.andThen]
 exact hK' _ _ (hK w' r1 r2)
def dKinds : DataW Unit := (((DataW.map []).put (.string wPut) (.lit (.int .i64 1))).put (.string wDelete) (.lit (.int .i64 2))).put (.string wPurge) (.lit (.int .i64 3))
theorem at_same {D : DataW Unit} (h : ∃ es, D = .map es) (u : List UInt8) (d z : DataW Unit) : (D.put (.string u) d).atKey (.string u) z = d := Maps.atKey_put_same h (k := .string u) trivial d z
theorem kinds_at (u : List UInt8) : dKinds.atKey (.string u) (.lit (.int .i64 0)) = .lit (.int .i64 (tKind u)) := by
 obtain ⟨h1, h2, h3⟩ : wPurge ≠ wPut ∧ wPurge ≠ wDelete ∧ wDelete ≠ wPut := by decide
 unfold dKinds tKind
 by_cases e3 : u = wPurge
 ·subst e3
  rw [at_same (by exact ⟨_, rfl⟩), if_neg h1, if_neg h2, if_pos rfl]
 ·rw [Maps.atKey_put_other (by simpa using e3), if_neg e3]
  by_cases e2 : u = wDelete
  ·subst e2
   rw [at_same (by exact ⟨_, rfl⟩), if_neg h3, if_pos rfl]
  ·rw [Maps.atKey_put_other (by simpa using e2), if_neg e2]
   by_cases e1 : u = wPut
   ·subst e1
    rw [at_same (by exact ⟨_, rfl⟩), if_pos rfl]
   ·rw [Maps.atKey_put_other (by simpa using e1), if_neg e1]
    rfl
set_option maxRecDepth 100000 in
theorem kind_look {w : World} {b n : Nat} (h : OwnM w b n dKinds) (u : List UInt8) (hu : u.length ≤ 1000000000) : (Instr.lookup 86 (.map (some b)) (.string ⟨u.toArray⟩) false).run Tryz.prog w = .ok (.int .i64 (tKind u)) w := by
 obtain ⟨v, ps, hrun, hv⟩ := h.lookup (Maps.string_keyed Tryz.underlying9) Tryz.underlying86 (Tryz.zeroValue3 _) (plainElem_int Tryz.underlying3 (by decide)) (WideMaps.keyOf_string_mk (s := ⟨u.toArray⟩) Tryz.underlying9 (by rw [sizeOf_]; unfold maxLen; omega))
 have e : (ByteArray.mk u.toArray).data.toList = u := by simp
 rw [e, kinds_at u] at hv
 obtain ⟨a, rfl, hz, _⟩ := plainElem_int_inv Tryz.underlying3 hv
 rw [hrun]
 injection hz with h1 _
 injection h1 with h1
 injection h1 with _ h1
 rw [h1]
end Go.Proofs.YtdmnmfnmaccmoaaGreatDoor
/- Walks of chapter 7: the deed of a text. -/
namespace Go.Proofs.YtdmnmfnmaccmoaaGreatDoor
open Go Go.RowKit
theorem byt_one {w : World} {g j : Nat} {cs : Array Value} {v x : Value} {l : List UInt8} (k : Box w g 34 cs) (hd : ByT w 0 v l) : ByT (w.setCell ⟨g, j, none⟩ x) 0 v l := by
 have kk := k.kd
 exact hd.kept (T := []) (by (repeat (with_reducible (first | assumption | exact Kept.refl _ _ _ | (apply Kept.setK; rotate_left; (repeat (first | assumption | apply Kd.set | apply Kd.alloc | apply Kd.drew)); decide; omega) | refine Kept.allocK ?_ _ | refine Kept.drewK ?_))))
theorem ded_step {w : World} {g : Nat} {cs : Array Value} {v a b c e : Value} {d : Ded} (k : Box w g 34 cs) (hd : DedV w 0 v d) : DedV ((((w.setCell ⟨g, 0, none⟩ a).setCell ⟨g, 1, none⟩ b).setCell ⟨g, 2, none⟩ c).setCell ⟨g, 3, none⟩ e) 0 v d := by
 have kk := k.kd
 exact hd.kept (T := []) (by (repeat (with_reducible (first | assumption | exact Kept.refl _ _ _ | (apply Kept.setK; rotate_left; (repeat (first | assumption | apply Kd.set | apply Kd.alloc | apply Kd.drew)); decide; omega) | refine Kept.allocK ?_ _ | refine Kept.drewK ?_))))
theorem ded_zero (w : World) (base : Nat) : DedV w base (.agg #[.int .i64 0, .int .i64 0, .int .i64 0, .slice none 0 0]) dZ := ⟨_, rfl, ByT.nil _ _⟩
set_option maxHeartbeats 4000000 in
set_option maxRecDepth 100000 in
theorem parse_v (l : List UInt8) (hl : l.length ≤ 1000000000) {w : World} (hV : VarT w) :
  Calls Tryz.prog 16 #[.string ⟨l.toArray⟩] w fun e w' => ∃ v q, e = .returned (.tuple #[v, .int .i64 q]) ∧ Hid (q = (tParse l).2) ∧ DedV w' w'.heap.size v (tParse l).1 ∧ Ext w w' := by
 have hV0 := hV
 obtain ⟨a, ws, hc⟩ := cut_cons l
 have hle := cut_le l
 have hcl := cut_len l
 have HS := Lib.hid (show Hid (∀ u ∈ tCut l, u.length ≤ 1000000000) from fun u hu => Nat.le_trans (hle u hu) hl)
 have HC := Lib.hid hc
 clear hle hc
 go_enter Tryz.func16, Tryz.ntmps16
 go_wp2_with (go_at_call 33; refine (split_v l hl (hV.ext (ext_alloc w _))).mono ?_; refine Lib.hid ?_)
 rintro e w1 ⟨rfl, bs, hE1⟩
 have b0 := (Box.new w #[.int .i64 0, .int .i64 0, .int .i64 0, .slice none 0 0] 34 rfl).ext hE1
 have hE := ext_trans (ext_alloc w (.cells #[.int .i64 0, .int .i64 0, .int .i64 0, .slice none 0 0] 34)) hE1
 have hz1 := hE1.size
 obtain ⟨gs, hgs⟩ : ∃ g, g = (w.alloc (.cells #[.int .i64 0, .int .i64 0, .int .i64 0, .slice none 0 0] 34)).heap.size := ⟨_, rfl⟩
 rw [← hgs] at bs ⊢
 have h0s : w.heap.size < gs := by rw [hgs]; simp
 clear hgs hE1 hz1
 obtain ⟨n, hn⟩ : ∃ n, n = (tCut l).length := ⟨_, rfl⟩
 rw [← hn] at hcl ⊢
 have n0 : 0 < n := by rw [hn, HC.out]; simp
 have HN := Lib.hid hn
 clear hn
 have hmm := @run_makeMap Tryz.prog
 go_wp2_with (refine wpl_ins rfl (.tmp 12) _ _ rfl rfl (World.ownsMap_made w1 _ _ _) (by unfold maxLen; omega) rfl (by decide) rfl (by decide) (by decide) ?_; refine Lib.hid ?_)
 intro w2 m2 g2
 go_wp2_with (refine wpl_ins rfl (.tmp 12) _ _ rfl rfl m2 (by unfold maxLen; omega) rfl (by decide) rfl (by decide) (by decide) ?_; refine Lib.hid ?_)
 intro w3 m3 g3
 go_wp2_with (refine wpl_ins rfl (.tmp 12) _ _ rfl rfl m3 (by unfold maxLen; omega) rfl (by decide) rfl (by decide) (by decide) ?_; refine Lib.hid ?_)
 intro w4 m4 g4
 have hb2 : Ext w1 w2 := (ext_alloc w1 _).grown g2 (by simp) (fun k hk => by injection hk with hk; omega)
 have hb3 : Ext w1 w3 := hb2.grown g3 hb2.size (fun k hk => by injection hk with hk; omega)
 have hb4 : Ext w1 w4 := hb3.grown g4 hb3.size (fun k hk => by injection hk with hk; omega)
 have hlk := kind_look m4 a (HS.out.out a (by rw [HC.out]; simp))
 have bs := bs.ext hb4
 have b0 := b0.ext hb4
 have hE := ext_trans hE hb4
 have cs0 := bs.cell 0 (v := .string ⟨a.toArray⟩) (by rw [HC.out]; rfl)
 obtain ⟨ab, hab⟩ : ∃ b : ByteArray, b = ⟨a.toArray⟩ := ⟨_, rfl⟩
 rw [← hab] at hlk cs0
 clear hab g2 g3 g4 m2 m3 m4 hb2 hb3 hb4
 obtain ⟨gm, hgm⟩ : ∃ g, g = w1.heap.size := ⟨_, rfl⟩
 rw [← hgm] at hlk ⊢
 clear hgm
 go_upto_region 3 with (fail)
 generalize hwn : World.alloc w4 _ = w5
 have he : Ext w4 w5 := by rw [← hwn]; exact ext_alloc _ _
 have bd : Box w5 w4.heap.size 34 #[.int .i64 (tKind a), .int .i64 0, .int .i64 0, .slice none 0 0] := by rw [← hwn]; exact Box.new _ _ _ rfl
 have hsd := bs.lt
 clear hwn cs0 hlk hmm
 have bs := bs.ext he
 have b0 := b0.ext he
 have hE := ext_trans hE he
 have hV := hV.ext hE
 obtain ⟨gd, hgd⟩ : ∃ g, g = w4.heap.size := ⟨_, rfl⟩
 rw [← hgd] at bd hsd ⊢
 clear hgd he
 obtain ⟨hp0, hp1⟩ : (tParse l = if tKind a = 0 then (dZ, 1) else if n ≠ (if tKind a = 2 then 2 else 3) then (dZ, 2) else match tWords (tCut l) with
  | none => (dZ, 2)
  | some d => if mWrong d ≠ 0 then (dZ, mWrong d) else (d, 0)) ∧ True := ⟨by unfold tParse; rw [HN.out, HC.out]; rfl, trivial⟩
 clear hp1
 obtain ⟨tk, htk⟩ : ∃ k, k = tKind a := ⟨_, rfl⟩
 rw [← htk] at bd hp0 ⊢
 have HT := Lib.hid htk
 clear htk
 obtain ⟨y0, y1, y2, y3⟩ := b0.c4
 obtain ⟨x0, x1, x2, x3⟩ := bd.c4
 have xz := bd.free
 have yz := b0.free
 by_cases k0 : tk = 0
 ·have HP := Lib.hid (hp0.trans (if_pos k0))
  clear hp0
  go_wp2_with fail
  ((try simp only [Exit.inBlock, Exit.then]); refine bodyPost_ret (v := ?_) ?resultOf rfl ?_; case resultOf => (rw [results_cell_tmp rfl]; go_simp; rfl))
  rw [HP.out]
  exact ⟨_, _, rfl, Lib.hid rfl, ded_zero _ _, by (repeat (with_reducible (first | assumption | exact Below.refl _ _ | refine Below.setCell ?_ (by simp <;> omega) _ | refine Below.alloc ?_ (by simp <;> omega) _ | refine Below.drew ?_ | refine below_drewN ?_ _)))⟩
 rw [if_neg k0] at hp0
 by_cases k2 : tk = 2
 ·subst k2
  rw [if_pos rfl] at hp0
  by_cases n2 : n = 2
  ·subst n2
   rw [if_neg (by simp)] at hp0
   obtain ⟨b, Hb⟩ : ∃ b, Hid (tCut l = [a, b]) := by
    have e1 := HC.out
    have e2 := HN.out
    rw [e1] at e2
    match ws, e2 with
    | [b], _ => exact ⟨b, Lib.hid e1⟩
   have hbl := HS.out.out b (by rw [Hb.out]; simp)
   have cs1 := bs.cell 1 (v := .string ⟨b.toArray⟩) (by rw [Hb.out]; rfl)
   have hnum := number_v b hbl hV
   have hw : tWords (tCut l) = (tNum b).map fun k => ⟨2, k, 0, []⟩ := by
    rw [Hb.out]
    unfold tWords
    show (if tKind a = 2 then _ else _) = _
    rw [← HT.out, if_pos rfl]
    rfl
   rw [hw] at hp0
   have HP0 := Lib.hid hp0
   obtain ⟨bb, hbb⟩ : ∃ z : ByteArray, z = ⟨b.toArray⟩ := ⟨_, rfl⟩
   rw [← hbb] at cs1 hnum
   clear hbb hp0 hw
   go_wp2_with (go_at_call 34; refine hnum.mono ?_; refine Lib.hid ?_)
   rintro e w6 ⟨v, bn, rfl, Hn, he⟩
   clear hnum cs1
   have hs5 := bs.lt
   have hd5 := bd.lt
   have bs := bs.ext he
   have b0 := b0.ext he
   have bd := bd.ext he
   have hE := ext_trans hE he
   clear he
   try clear x0 x1 x2 x3 y0 y1 y2 y3 xz yz
   obtain ⟨y0, y1, y2, y3⟩ := b0.c4
   obtain ⟨x0, x1, x2, x3⟩ := bd.c4
   have xz := bd.free
   have yz := b0.free
   cases bn with
   | false =>
    have HP : Hid (tParse l = (dZ, 2)) := by
     cases hv : tNum b with
     | none => rw [HP0.out, hv]; exact Lib.hid rfl
     | some u => have := Hn.out.1; rw [hv] at this; cases this
    clear HP0
    go_wp2_with fail
    ((try simp only [Exit.inBlock, Exit.then]); refine bodyPost_ret (v := ?_) ?resultOf rfl ?_; case resultOf => (rw [results_cell_tmp rfl]; go_simp; rfl))
    rw [HP.out]
    exact ⟨_, _, rfl, Lib.hid rfl, ded_zero _ _, by (repeat (with_reducible (first | assumption | exact Below.refl _ _ | refine Below.setCell ?_ (by simp <;> omega) _ | refine Below.alloc ?_ (by simp <;> omega) _ | refine Below.drew ?_ | refine below_drewN ?_ _)))⟩
   | true =>
    have HP1 : Hid (tParse l = if mWrong ⟨2, v, 0, []⟩ ≠ 0 then (dZ, mWrong ⟨2, v, 0, []⟩) else (⟨2, v, 0, []⟩, 0)) := by
     cases hv : tNum b with
     | none => have := Hn.out.1; rw [hv] at this; cases this
     | some u =>
      obtain rfl := Hn.out.2 u hv
      rw [HP0.out, hv]; exact Lib.hid rfl
    clear HP0
    go_upto_region 21 with (fail)
    generalize hwn : World.setCell w6 _ _ = w7
    have b0 : Box w7 w.heap.size 34 #[.int .i64 0, .int .i64 0, .int .i64 0, .slice none 0 0] := by rw [← hwn]; exact b0.setOther (p := ⟨gd, 1, none⟩) (show w.heap.size ≠ gd by omega) _
    have bs : Box w7 gs 9 (strs (tCut l)).toArray := by rw [← hwn]; exact bs.setOther (p := ⟨gd, 1, none⟩) (show gs ≠ gd by omega) _
    have hE : Ext w w7 := by rw [← hwn]; exact hE.setCell (by show w.heap.size ≤ gd; omega) _
    have bd : Box w7 gd 34 #[.int .i64 2, .int .i64 v, .int .i64 0, .slice none 0 0] := by rw [← hwn]; exact bd.set 1 _
    clear hwn
    clear x0 x1 x2 x3 y0 y1 y2 y3 xz yz
    obtain ⟨y0, y1, y2, y3⟩ := b0.c4
    obtain ⟨x0, x1, x2, x3⟩ := bd.c4
    have xz := bd.free
    have yz := b0.free
    have hded : DedV w7 0 (.agg #[.int .i64 2, .int .i64 v, .int .i64 0, .slice none 0 0]) ⟨2, v, 0, []⟩ := ⟨_, rfl, ByT.nil _ _⟩
    go_wp2_with (go_at_call 36; refine (mWrong_v hded).mono ?_; refine Lib.hid ?_)
    rintro e w10 ⟨rfl, he⟩
    have hded := hded.ext he
    have hs5 := bs.lt
    have hd5 := bd.lt
    have bs := bs.ext he
    have b0 := b0.ext he
    have bd := bd.ext he
    have hE := ext_trans hE he
    clear he
    try clear x0 x1 x2 x3 y0 y1 y2 y3 xz yz
    obtain ⟨y0, y1, y2, y3⟩ := b0.c4
    obtain ⟨x0, x1, x2, x3⟩ := bd.c4
    have xz := bd.free
    have yz := b0.free
    obtain ⟨d, hd⟩ : ∃ d : Ded, d = ⟨2, v, 0, []⟩ := ⟨_, rfl⟩
    rw [← hd] at hded HP1 ⊢
    clear hd
    obtain ⟨q, hq⟩ : ∃ q, q = mWrong d := ⟨_, rfl⟩
    rw [← hq] at HP1 ⊢
    clear hq
    by_cases z : q = 0
    ·have HP : Hid (tParse l = (d, 0)) := by rw [HP1.out, if_neg (by simpa using z)]; exact Lib.hid rfl
     subst z
     clear HP1
     go_wp2_with fail
     ((try simp only [Exit.inBlock, Exit.then]); refine bodyPost_ret (v := ?_) ?resultOf rfl ?_; case resultOf => (rw [results_cell_tmp rfl]; go_simp; rfl))
     rw [HP.out]
     exact ⟨_, _, rfl, Lib.hid rfl, (ded_step b0 hded).all, by (repeat (with_reducible (first | assumption | exact Below.refl _ _ | refine Below.setCell ?_ (by simp <;> omega) _ | refine Below.alloc ?_ (by simp <;> omega) _ | refine Below.drew ?_ | refine below_drewN ?_ _)))⟩
    ·have HP : Hid (tParse l = (dZ, q)) := by rw [HP1.out, if_pos (by simpa using z)]; exact Lib.hid rfl
     have zq : (q != 0) = true := by simpa using z
     clear HP1 z
     go_wp2_with fail
     ((try simp only [Exit.inBlock, Exit.then]); refine bodyPost_ret (v := ?_) ?resultOf rfl ?_; case resultOf => (rw [results_cell_tmp rfl]; go_simp; rfl))
     rw [HP.out]
     exact ⟨_, _, rfl, Lib.hid rfl, ded_zero _ _, by (repeat (with_reducible (first | assumption | exact Below.refl _ _ | refine Below.setCell ?_ (by simp <;> omega) _ | refine Below.alloc ?_ (by simp <;> omega) _ | refine Below.drew ?_ | refine below_drewN ?_ _)))⟩
  ·rw [if_pos n2] at hp0
   have HP := Lib.hid hp0
   have q : ((n : Int) != 2) = true := by simp; omega
   clear hp0 n2
   go_wp2_with fail
   ((try simp only [Exit.inBlock, Exit.then]); refine bodyPost_ret (v := ?_) ?resultOf rfl ?_; case resultOf => (rw [results_cell_tmp rfl]; go_simp; rfl))
   rw [HP.out]
   exact ⟨_, _, rfl, Lib.hid rfl, ded_zero _ _, by (repeat (with_reducible (first | assumption | exact Below.refl _ _ | refine Below.setCell ?_ (by simp <;> omega) _ | refine Below.alloc ?_ (by simp <;> omega) _ | refine Below.drew ?_ | refine below_drewN ?_ _)))⟩
 ·rw [if_neg k2] at hp0
  have q0 : (tk == 0) = false := by simpa using k0
  have q2 : (tk == 2) = false := by simpa using k2
  by_cases n3 : n = 3
  ·subst n3
   rw [if_neg (by simp)] at hp0
   obtain ⟨b, c, Hb⟩ : ∃ b c, Hid (tCut l = [a, b, c]) := by
    have e1 := HC.out
    have e2 := HN.out
    rw [e1] at e2
    match ws, e2 with
    | [b, c], _ => exact ⟨b, c, Lib.hid e1⟩
   have hbl := HS.out.out b (by rw [Hb.out]; simp)
   have hcl2 := HS.out.out c (by rw [Hb.out]; simp)
   have cs1 := bs.cell 1 (v := .string ⟨b.toArray⟩) (by rw [Hb.out]; rfl)
   have hnum := number_v b hbl hV
   have hw : tWords (tCut l) = if tk = 1 then (tNum b).bind fun k => (unHex c).map fun x => ⟨1, k, 0, x⟩ else (tNum b).bind fun k => (tNum c).map fun n => ⟨3, k, n, []⟩ := by
    rw [Hb.out]
    unfold tWords
    show (if tKind a = 2 then _ else if tKind a = 1 then _ else _) = _
    rw [← HT.out, if_neg k2]
    rfl
   obtain ⟨bb, hbb⟩ : ∃ z : ByteArray, z = ⟨b.toArray⟩ := ⟨_, rfl⟩
   rw [← hbb] at cs1 hnum
   clear hbb
   have kk : tk = 1 ∨ tk = 3 := by
    rcases kind_cases a with ⟨_, e⟩ | ⟨_, e⟩ | ⟨_, e⟩ | e
    ·exact .inl (HT.out.trans e)
    ·exact absurd (HT.out.trans e) k2
    ·exact .inr (HT.out.trans e)
    ·exact absurd (HT.out.trans e) k0
   rcases kk with rfl | rfl
   ·rw [if_pos rfl] at hw
    rw [hw] at hp0
    have HP0 := Lib.hid hp0
    clear hp0 hw k0 k2 q0 q2
    go_wp2_with (go_at_call 34; refine hnum.mono ?_; refine Lib.hid ?_)
    rintro e w6 ⟨v, bn, rfl, Hn, he⟩
    clear hnum cs1
    have hV := hV.ext he
    have hs5 := bs.lt
    have hd5 := bd.lt
    have bs := bs.ext he
    have b0 := b0.ext he
    have bd := bd.ext he
    have hE := ext_trans hE he
    clear he
    try clear x0 x1 x2 x3 y0 y1 y2 y3 xz yz
    obtain ⟨y0, y1, y2, y3⟩ := b0.c4
    obtain ⟨x0, x1, x2, x3⟩ := bd.c4
    have xz := bd.free
    have yz := b0.free
    go_upto_region 16 with (fail)
    generalize hwn : World.setCell w6 _ _ = w7
    have b0 : Box w7 w.heap.size 34 #[.int .i64 0, .int .i64 0, .int .i64 0, .slice none 0 0] := by rw [← hwn]; exact b0.setOther (p := ⟨gd, 1, none⟩) (show w.heap.size ≠ gd by omega) _
    have bs : Box w7 gs 9 (strs (tCut l)).toArray := by rw [← hwn]; exact bs.setOther (p := ⟨gd, 1, none⟩) (show gs ≠ gd by omega) _
    have hE : Ext w w7 := by rw [← hwn]; exact hE.setCell (by show w.heap.size ≤ gd; omega) _
    have bd : Box w7 gd 34 #[.int .i64 1, .int .i64 v, .int .i64 0, .slice none 0 0] := by rw [← hwn]; exact bd.set 1 _
    clear hwn
    clear x0 x1 x2 x3 y0 y1 y2 y3 xz yz
    obtain ⟨y0, y1, y2, y3⟩ := b0.c4
    obtain ⟨x0, x1, x2, x3⟩ := bd.c4
    have xz := bd.free
    have yz := b0.free
    have cs2 := bs.cell 2 (v := .string ⟨c.toArray⟩) (by rw [Hb.out]; rfl)
    have hun := unhex_v c hcl2 w7
    obtain ⟨cc, hcc⟩ : ∃ z : ByteArray, z = ⟨c.toArray⟩ := ⟨_, rfl⟩
    rw [← hcc] at cs2 hun
    clear hcc
    go_wp2_with (go_at_call 35; refine hun.mono ?_; refine Lib.hid ?_)
    rintro e w8 ⟨u, bu, rfl, Hu, hub, he⟩
    clear hun cs2
    obtain ⟨A, un, uc, rfl⟩ : ∃ A n c, u = .slice A n c := by
     obtain ⟨A, n, c, e, _⟩ := hub
     exact ⟨A, n, c, e⟩
    have hs5 := bs.lt
    have hd5 := bd.lt
    have bs := bs.ext he
    have b0 := b0.ext he
    have bd := bd.ext he
    have hE := ext_trans hE he
    clear he
    try clear x0 x1 x2 x3 y0 y1 y2 y3 xz yz
    obtain ⟨y0, y1, y2, y3⟩ := b0.c4
    obtain ⟨x0, x1, x2, x3⟩ := bd.c4
    have xz := bd.free
    have yz := b0.free
    cases bn with
    | false =>
     have HP : Hid (tParse l = (dZ, 2)) := by
      cases hv : tNum b with
      | none => rw [HP0.out, hv]; exact Lib.hid rfl
      | some u => have := Hn.out.1; rw [hv] at this; cases this
     clear HP0
     go_wp2_with fail
     ((try simp only [Exit.inBlock, Exit.then]); refine bodyPost_ret (v := ?_) ?resultOf rfl ?_; case resultOf => (rw [results_cell_tmp rfl]; go_simp; rfl))
     rw [HP.out]
     exact ⟨_, _, rfl, Lib.hid rfl, ded_zero _ _, by (repeat (with_reducible (first | assumption | exact Below.refl _ _ | refine Below.setCell ?_ (by simp <;> omega) _ | refine Below.alloc ?_ (by simp <;> omega) _ | refine Below.drew ?_ | refine below_drewN ?_ _)))⟩
    | true =>
     obtain ⟨v', hv⟩ : ∃ x, tNum b = some x := Option.isSome_iff_exists.1 Hn.out.1.symm
     obtain rfl := Hn.out.2 v' hv
     cases bu with
     | false =>
      have HP : Hid (tParse l = (dZ, 2)) := by
       cases hx : unHex c with
       | none => rw [HP0.out, hv, hx]; exact Lib.hid rfl
       | some u => have := Hu.out; rw [hx] at this; cases this
      clear HP0 hv
      go_wp2_with fail
      ((try simp only [Exit.inBlock, Exit.then]); refine bodyPost_ret (v := ?_) ?resultOf rfl ?_; case resultOf => (rw [results_cell_tmp rfl]; go_simp; rfl))
      rw [HP.out]
      exact ⟨_, _, rfl, Lib.hid rfl, ded_zero _ _, by (repeat (with_reducible (first | assumption | exact Below.refl _ _ | refine Below.setCell ?_ (by simp <;> omega) _ | refine Below.alloc ?_ (by simp <;> omega) _ | refine Below.drew ?_ | refine below_drewN ?_ _)))⟩
     | true =>
      obtain ⟨x, hx⟩ : ∃ x, unHex c = some x := Option.isSome_iff_exists.1 Hu.out.symm
      have HP1 : Hid (tParse l = if mWrong ⟨1, v, 0, x⟩ ≠ 0 then (dZ, mWrong ⟨1, v, 0, x⟩) else (⟨1, v, 0, x⟩, 0)) := by
       rw [HP0.out, hv, hx]; exact Lib.hid rfl
      rw [hx] at hub
      clear HP0 hv hx
      go_upto_region 21 with (fail)
      generalize hwn : World.setCell w8 _ _ = w9
      have b0 : Box w9 w.heap.size 34 #[.int .i64 0, .int .i64 0, .int .i64 0, .slice none 0 0] := by rw [← hwn]; exact b0.setOther (p := ⟨gd, 3, none⟩) (show w.heap.size ≠ gd by omega) _
      have bs : Box w9 gs 9 (strs (tCut l)).toArray := by rw [← hwn]; exact bs.setOther (p := ⟨gd, 3, none⟩) (show gs ≠ gd by omega) _
      have hE : Ext w w9 := by rw [← hwn]; exact hE.setCell (by show w.heap.size ≤ gd; omega) _
      have hub : ByT w9 0 (.slice A un uc) x := by rw [← hwn]; exact byt_one bd hub
      have bd : Box w9 gd 34 #[.int .i64 1, .int .i64 v, .int .i64 0, .slice A un uc] := by rw [← hwn]; exact bd.set 3 _
      clear hwn
      clear x0 x1 x2 x3 y0 y1 y2 y3 xz yz
      obtain ⟨y0, y1, y2, y3⟩ := b0.c4
      obtain ⟨x0, x1, x2, x3⟩ := bd.c4
      have xz := bd.free
      have yz := b0.free
      have hded : DedV w9 0 (.agg #[.int .i64 1, .int .i64 v, .int .i64 0, .slice A un uc]) ⟨1, v, 0, x⟩ := ⟨_, rfl, hub⟩
      go_wp2_with (go_at_call 36; refine (mWrong_v hded).mono ?_; refine Lib.hid ?_)
      rintro e w10 ⟨rfl, he⟩
      have hded := hded.ext he
      have hs5 := bs.lt
      have hd5 := bd.lt
      have bs := bs.ext he
      have b0 := b0.ext he
      have bd := bd.ext he
      have hE := ext_trans hE he
      clear he
      try clear x0 x1 x2 x3 y0 y1 y2 y3 xz yz
      obtain ⟨y0, y1, y2, y3⟩ := b0.c4
      obtain ⟨x0, x1, x2, x3⟩ := bd.c4
      have xz := bd.free
      have yz := b0.free
      obtain ⟨d, hd⟩ : ∃ d : Ded, d = ⟨1, v, 0, x⟩ := ⟨_, rfl⟩
      rw [← hd] at hded HP1 ⊢
      clear hd
      obtain ⟨q, hq⟩ : ∃ q, q = mWrong d := ⟨_, rfl⟩
      rw [← hq] at HP1 ⊢
      clear hq
      by_cases z : q = 0
      ·have HP : Hid (tParse l = (d, 0)) := by rw [HP1.out, if_neg (by simpa using z)]; exact Lib.hid rfl
       subst z
       clear HP1
       go_wp2_with fail
       ((try simp only [Exit.inBlock, Exit.then]); refine bodyPost_ret (v := ?_) ?resultOf rfl ?_; case resultOf => (rw [results_cell_tmp rfl]; go_simp; rfl))
       rw [HP.out]
       exact ⟨_, _, rfl, Lib.hid rfl, (ded_step b0 hded).all, by (repeat (with_reducible (first | assumption | exact Below.refl _ _ | refine Below.setCell ?_ (by simp <;> omega) _ | refine Below.alloc ?_ (by simp <;> omega) _ | refine Below.drew ?_ | refine below_drewN ?_ _)))⟩
      ·have HP : Hid (tParse l = (dZ, q)) := by rw [HP1.out, if_pos (by simpa using z)]; exact Lib.hid rfl
       have zq : (q != 0) = true := by simpa using z
       clear HP1 z
       go_wp2_with fail
       ((try simp only [Exit.inBlock, Exit.then]); refine bodyPost_ret (v := ?_) ?resultOf rfl ?_; case resultOf => (rw [results_cell_tmp rfl]; go_simp; rfl))
       rw [HP.out]
       exact ⟨_, _, rfl, Lib.hid rfl, ded_zero _ _, by (repeat (with_reducible (first | assumption | exact Below.refl _ _ | refine Below.setCell ?_ (by simp <;> omega) _ | refine Below.alloc ?_ (by simp <;> omega) _ | refine Below.drew ?_ | refine below_drewN ?_ _)))⟩
   ·rw [if_neg (by decide)] at hw
    rw [hw] at hp0
    have HP0 := Lib.hid hp0
    clear hp0 hw k0 k2 q0 q2
    go_wp2_with (go_at_call 34; refine hnum.mono ?_; refine Lib.hid ?_)
    rintro e w6 ⟨v, bn, rfl, Hn, he⟩
    clear hnum cs1
    have hV := hV.ext he
    have hs5 := bs.lt
    have hd5 := bd.lt
    have bs := bs.ext he
    have b0 := b0.ext he
    have bd := bd.ext he
    have hE := ext_trans hE he
    clear he
    try clear x0 x1 x2 x3 y0 y1 y2 y3 xz yz
    obtain ⟨y0, y1, y2, y3⟩ := b0.c4
    obtain ⟨x0, x1, x2, x3⟩ := bd.c4
    have xz := bd.free
    have yz := b0.free
    go_upto_region 18 with (fail)
    generalize hwn : World.setCell w6 _ _ = w7
    have b0 : Box w7 w.heap.size 34 #[.int .i64 0, .int .i64 0, .int .i64 0, .slice none 0 0] := by rw [← hwn]; exact b0.setOther (p := ⟨gd, 1, none⟩) (show w.heap.size ≠ gd by omega) _
    have bs : Box w7 gs 9 (strs (tCut l)).toArray := by rw [← hwn]; exact bs.setOther (p := ⟨gd, 1, none⟩) (show gs ≠ gd by omega) _
    have hE : Ext w w7 := by rw [← hwn]; exact hE.setCell (by show w.heap.size ≤ gd; omega) _
    have bd : Box w7 gd 34 #[.int .i64 3, .int .i64 v, .int .i64 0, .slice none 0 0] := by rw [← hwn]; exact bd.set 1 _
    have hV : VarT w7 := hV0.ext hE
    clear hwn
    clear x0 x1 x2 x3 y0 y1 y2 y3 xz yz
    obtain ⟨y0, y1, y2, y3⟩ := b0.c4
    obtain ⟨x0, x1, x2, x3⟩ := bd.c4
    have xz := bd.free
    have yz := b0.free
    have cs2 := bs.cell 2 (v := .string ⟨c.toArray⟩) (by rw [Hb.out]; rfl)
    have hun := number_v c hcl2 hV
    obtain ⟨cc, hcc⟩ : ∃ z : ByteArray, z = ⟨c.toArray⟩ := ⟨_, rfl⟩
    rw [← hcc] at cs2 hun
    clear hcc
    go_wp2_with (go_at_call 34; refine hun.mono ?_; refine Lib.hid ?_)
    rintro e w8 ⟨u, bu, rfl, Hu, he⟩
    clear hun cs2
    have hs5 := bs.lt
    have hd5 := bd.lt
    have bs := bs.ext he
    have b0 := b0.ext he
    have bd := bd.ext he
    have hE := ext_trans hE he
    clear he
    try clear x0 x1 x2 x3 y0 y1 y2 y3 xz yz
    obtain ⟨y0, y1, y2, y3⟩ := b0.c4
    obtain ⟨x0, x1, x2, x3⟩ := bd.c4
    have xz := bd.free
    have yz := b0.free
    cases bn with
    | false =>
     have HP : Hid (tParse l = (dZ, 2)) := by
      cases hv : tNum b with
      | none => rw [HP0.out, hv]; exact Lib.hid rfl
      | some u => have := Hn.out.1; rw [hv] at this; cases this
     clear HP0
     go_wp2_with fail
     ((try simp only [Exit.inBlock, Exit.then]); refine bodyPost_ret (v := ?_) ?resultOf rfl ?_; case resultOf => (rw [results_cell_tmp rfl]; go_simp; rfl))
     rw [HP.out]
     exact ⟨_, _, rfl, Lib.hid rfl, ded_zero _ _, by (repeat (with_reducible (first | assumption | exact Below.refl _ _ | refine Below.setCell ?_ (by simp <;> omega) _ | refine Below.alloc ?_ (by simp <;> omega) _ | refine Below.drew ?_ | refine below_drewN ?_ _)))⟩
    | true =>
     obtain ⟨v', hv⟩ : ∃ x, tNum b = some x := Option.isSome_iff_exists.1 Hn.out.1.symm
     obtain rfl := Hn.out.2 v' hv
     cases bu with
     | false =>
      have HP : Hid (tParse l = (dZ, 2)) := by
       cases hx : tNum c with
       | none => rw [HP0.out, hv, hx]; exact Lib.hid rfl
       | some u => have := Hu.out.1; rw [hx] at this; cases this
      clear HP0 hv
      go_wp2_with fail
      ((try simp only [Exit.inBlock, Exit.then]); refine bodyPost_ret (v := ?_) ?resultOf rfl ?_; case resultOf => (rw [results_cell_tmp rfl]; go_simp; rfl))
      rw [HP.out]
      exact ⟨_, _, rfl, Lib.hid rfl, ded_zero _ _, by (repeat (with_reducible (first | assumption | exact Below.refl _ _ | refine Below.setCell ?_ (by simp <;> omega) _ | refine Below.alloc ?_ (by simp <;> omega) _ | refine Below.drew ?_ | refine below_drewN ?_ _)))⟩
     | true =>
      obtain ⟨x, hx⟩ : ∃ x, tNum c = some x := Option.isSome_iff_exists.1 Hu.out.1.symm
      obtain rfl := Hu.out.2 x hx
      have HP1 : Hid (tParse l = if mWrong ⟨3, v, u, []⟩ ≠ 0 then (dZ, mWrong ⟨3, v, u, []⟩) else (⟨3, v, u, []⟩, 0)) := by
       rw [HP0.out, hv, hx]; exact Lib.hid rfl
      clear HP0 hv hx
      go_upto_region 21 with (fail)
      generalize hwn : World.setCell w8 _ _ = w9
      have b0 : Box w9 w.heap.size 34 #[.int .i64 0, .int .i64 0, .int .i64 0, .slice none 0 0] := by rw [← hwn]; exact b0.setOther (p := ⟨gd, 2, none⟩) (show w.heap.size ≠ gd by omega) _
      have bs : Box w9 gs 9 (strs (tCut l)).toArray := by rw [← hwn]; exact bs.setOther (p := ⟨gd, 2, none⟩) (show gs ≠ gd by omega) _
      have hE : Ext w w9 := by rw [← hwn]; exact hE.setCell (by show w.heap.size ≤ gd; omega) _
      have bd : Box w9 gd 34 #[.int .i64 3, .int .i64 v, .int .i64 u, .slice none 0 0] := by rw [← hwn]; exact bd.set 2 _
      clear hwn
      clear x0 x1 x2 x3 y0 y1 y2 y3 xz yz
      obtain ⟨y0, y1, y2, y3⟩ := b0.c4
      obtain ⟨x0, x1, x2, x3⟩ := bd.c4
      have xz := bd.free
      have yz := b0.free
      have hded : DedV w9 0 (.agg #[.int .i64 3, .int .i64 v, .int .i64 u, .slice none 0 0]) ⟨3, v, u, []⟩ := ⟨_, rfl, ByT.nil _ _⟩
      go_wp2_with (go_at_call 36; refine (mWrong_v hded).mono ?_; refine Lib.hid ?_)
      rintro e w10 ⟨rfl, he⟩
      have hded := hded.ext he
      have hs5 := bs.lt
      have hd5 := bd.lt
      have bs := bs.ext he
      have b0 := b0.ext he
      have bd := bd.ext he
      have hE := ext_trans hE he
      clear he
      try clear x0 x1 x2 x3 y0 y1 y2 y3 xz yz
      obtain ⟨y0, y1, y2, y3⟩ := b0.c4
      obtain ⟨x0, x1, x2, x3⟩ := bd.c4
      have xz := bd.free
      have yz := b0.free
      obtain ⟨d, hd⟩ : ∃ d : Ded, d = ⟨3, v, u, []⟩ := ⟨_, rfl⟩
      rw [← hd] at hded HP1 ⊢
      clear hd
      obtain ⟨q, hq⟩ : ∃ q, q = mWrong d := ⟨_, rfl⟩
      rw [← hq] at HP1 ⊢
      clear hq
      by_cases z : q = 0
      ·have HP : Hid (tParse l = (d, 0)) := by rw [HP1.out, if_neg (by simpa using z)]; exact Lib.hid rfl
       subst z
       clear HP1
       go_wp2_with fail
       ((try simp only [Exit.inBlock, Exit.then]); refine bodyPost_ret (v := ?_) ?resultOf rfl ?_; case resultOf => (rw [results_cell_tmp rfl]; go_simp; rfl))
       rw [HP.out]
       exact ⟨_, _, rfl, Lib.hid rfl, (ded_step b0 hded).all, by (repeat (with_reducible (first | assumption | exact Below.refl _ _ | refine Below.setCell ?_ (by simp <;> omega) _ | refine Below.alloc ?_ (by simp <;> omega) _ | refine Below.drew ?_ | refine below_drewN ?_ _)))⟩
      ·have HP : Hid (tParse l = (dZ, q)) := by rw [HP1.out, if_pos (by simpa using z)]; exact Lib.hid rfl
       have zq : (q != 0) = true := by simpa using z
       clear HP1 z
       go_wp2_with fail
       ((try simp only [Exit.inBlock, Exit.then]); refine bodyPost_ret (v := ?_) ?resultOf rfl ?_; case resultOf => (rw [results_cell_tmp rfl]; go_simp; rfl))
       rw [HP.out]
       exact ⟨_, _, rfl, Lib.hid rfl, ded_zero _ _, by (repeat (with_reducible (first | assumption | exact Below.refl _ _ | refine Below.setCell ?_ (by simp <;> omega) _ | refine Below.alloc ?_ (by simp <;> omega) _ | refine Below.drew ?_ | refine below_drewN ?_ _)))⟩
  ·rw [if_pos n3] at hp0
   have HP := Lib.hid hp0
   have q : ((n : Int) != 3) = true := by simp; omega
   clear hp0 n3 k0 k2
   go_wp2_with fail
   ((try simp only [Exit.inBlock, Exit.then]); refine bodyPost_ret (v := ?_) ?resultOf rfl ?_; case resultOf => (rw [results_cell_tmp rfl]; go_simp; rfl))
   rw [HP.out]
   exact ⟨_, _, rfl, Lib.hid rfl, ded_zero _ _, by (repeat (with_reducible (first | assumption | exact Below.refl _ _ | refine Below.setCell ?_ (by simp <;> omega) _ | refine Below.alloc ?_ (by simp <;> omega) _ | refine Below.drew ?_ | refine below_drewN ?_ _)))⟩
end Go.Proofs.YtdmnmfnmaccmoaaGreatDoor
