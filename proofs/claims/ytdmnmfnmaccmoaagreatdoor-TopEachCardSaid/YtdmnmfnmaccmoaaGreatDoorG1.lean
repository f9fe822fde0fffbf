/- Texts laid together: words, plain laws and walks of the program's functions (G1). -/
import Derived.WalkKit
import Derived.Deep.AppendLies
import Derived.Deep.Draws
import Derived.Lib.Hide
import Derived.Maps.AppendAt
import Derived.Test.YtdmnmfnmaccmoaaGreatDoorProg
import Derived.Laws.BytesArg
import Derived.ProofKit
import Derived.OpenShut
import Derived.ChangeOld
import Derived.SizedLaws
import Derived.Laws.ResultCell
import Derived.OrdersHeld
import Derived.Deep.RegionHeld3
import Derived.StillTail
import Derived.BigQuiet
import Derived.Deep.QuietTactic
import Derived.WalkSpells
import Derived.IntWalk
import Derived.Lib.SliceRun
/- Plain functions and lemmas: what each Go function computes, as functions on lists and numbers. No program here. -/
namespace Go.Proofs.YtdmnmfnmaccmoaaGreatDoor
structure Rec where
 kind : Int
 key : Int
 ver : Int
 data : List UInt8
structure Dsk where
 blocks : List (List UInt8)
 late : List (Int × List UInt8)
structure Ent where
 rcd : Rec
 pair : Int
structure Sto where
 disk : Dsk
 index : List Ent
 next : Int
structure Ded where
 kind : Int
 key : Int
 n : Int
 data : List UInt8
structure Stp where
 kind : Int
 n : Int
 m : Int
 deed : Ded
def b8 (n : Int) : UInt8 := UInt8.ofNat (n % 256).toNat
def sStep (s : Int) (c : UInt8) : Int := (s * 131 + (c.toNat : Int) + 1) % 65521
def sOf (b : List UInt8) : Int := b.foldl sStep 3
def sTwo (n : Int) : List UInt8 := [b8 (n / 256), b8 n]
def sNum (a b : UInt8) : Int := (a.toNat : Int) * 256 + (b.toNat : Int)
def sSeal (b : List UInt8) : List UInt8 := b ++ sTwo (sOf b)
def sSealed (b : List UInt8) : Bool :=
 decide (2 ≤ b.length) && decide (sNum (b.getD (b.length - 2) 0) (b.getD (b.length - 1) 0) = sOf (b.take (b.length - 2)))
theorem sStep_bd (s : Int) (c : UInt8) : 0 ≤ sStep s c ∧ sStep s c < 65521 := by unfold sStep; omega
theorem sOf_bd (b : List UInt8) : 0 ≤ sOf b ∧ sOf b < 65521 := by
 unfold sOf
 have h : ∀ (l : List UInt8) (s : Int), 0 ≤ s ∧ s < 65521 → 0 ≤ l.foldl sStep s ∧ l.foldl sStep s < 65521 := by
  intro l
  induction l with
  | nil => intro s h; exact h
  | cons c l ih => intro s _; exact ih _ (sStep_bd s c)
 exact h b 3 (by omega)
theorem b8_toNat (n : Int) : (b8 n).toNat = (n % 256).toNat := by
 unfold b8
 rw [UInt8.toNat_ofNat']
 omega
theorem b8_of (c : UInt8) : b8 (c.toNat : Int) = c := by
 apply UInt8.toNat_inj.1
 rw [b8_toNat]
 have := c.toNat_lt
 omega
theorem sNum_two (n : Int) (h0 : 0 ≤ n) (h1 : n < 65536) : sNum (b8 (n / 256)) (b8 n) = n := by
 unfold sNum
 rw [b8_toNat, b8_toNat]
 omega
theorem sTwo_sNum (a b : UInt8) : sTwo (sNum a b) = [a, b] := by
 unfold sTwo sNum
 have ha := a.toNat_lt
 have hb := b.toNat_lt
 have e1 : ((a.toNat : Int) * 256 + (b.toNat : Int)) / 256 = (a.toNat : Int) := by omega
 have e2 : b8 ((a.toNat : Int) * 256 + (b.toNat : Int)) = b := by
  apply UInt8.toNat_inj.1
  rw [b8_toNat]
  omega
 rw [e1, e2, b8_of]
theorem sSeal_length (b : List UInt8) : (sSeal b).length = b.length + 2 := by simp [sSeal, sTwo]
theorem take_sSeal (b : List UInt8) : (sSeal b).take b.length = b := by simp [sSeal]
theorem sSealed_iff (x : List UInt8) : sSealed x = true ↔ ∃ b, x = sSeal b := by
 constructor
 ·intro h
  unfold sSealed at h
  simp only [Bool.and_eq_true, decide_eq_true_eq] at h
  obtain ⟨h2, hn⟩ := h
  refine ⟨x.take (x.length - 2), ?_⟩
  unfold sSeal
  rw [← hn, sTwo_sNum]
  have h3 : x.drop (x.length - 2) = [x.getD (x.length - 2) 0, x.getD (x.length - 1) 0] := by
   rw [List.drop_eq_getElem_cons (by omega), List.drop_eq_getElem_cons (by omega), List.drop_eq_nil_of_le (by omega)]
   simp only [List.getD_eq_getElem?_getD]
   rw [List.getElem?_eq_getElem (by omega), List.getElem?_eq_getElem (by omega)]
   simp only [Option.getD_some, List.cons.injEq, true_and, and_true]
   congr 1
   omega
  rw [← h3, List.take_append_drop]
 ·rintro ⟨b, rfl⟩
  unfold sSealed
  have hl := sSeal_length b
  have h1 : (sSeal b).getD ((sSeal b).length - 2) 0 = b8 (sOf b / 256) := by
   rw [hl]; simp [sSeal, sTwo]
  have h2 : (sSeal b).getD ((sSeal b).length - 1) 0 = b8 (sOf b) := by
   rw [hl]
   have : b.length + 2 - 1 = b.length + 1 := by omega
   rw [this]; simp [sSeal, sTwo]
  rw [h1, h2, hl, Nat.add_sub_cancel, take_sSeal, sNum_two _ (sOf_bd b).1 (by have := (sOf_bd b).2; omega)]
  simp
end Go.Proofs.YtdmnmfnmaccmoaaGreatDoor
/- Words for memory: a slice that reads as a list of data, nil let in; kept behind new blocks. No program here. -/
namespace Go.Proofs.YtdmnmfnmaccmoaaGreatDoor
open Go Go.RowKit
theorem block_of_add (a : Addr) (n : Nat) : (a.add n).block = a.block := by unfold Addr.add; split <;> rfl
theorem add_of_add (a : Addr) (i j : Nat) : (a.add i).add j = a.add (i + j) := by
 unfold Addr.add
 by_cases hi : i = 0 <;> by_cases hj : j = 0 <;> simp [hi, hj, Nat.add_assoc]
structure Sl (w : World) (B size : Nat) (A : Option Addr) (n c : Nat) (xs : List Value) : Prop where
 len : xs.length = n * size
 cap : n ≤ c
 max : c ≤ maxLen
 at_ : 0 < n → ∃ ad, A = some ad ∧ ad.block < B ∧ ∀ j u, xs[j]? = some u → w.cell? (ad.add j) = some u
section
variable {w w' : World} {B B' size n c : Nat} {A : Option Addr} {xs : List Value}
theorem Sl.nil_ (w : World) (B size : Nat) : Sl w B size none 0 0 [] := ⟨by simp, Nat.le_refl _, by unfold maxLen; omega, fun h => absurd h (by omega)⟩
theorem Sl.keep (h : Sl w B size A n c xs) (hB : B ≤ B') (hk : ∀ p : Addr, p.block < B → w'.cell? p = w.cell? p) : Sl w' B' size A n c xs :=
 ⟨h.len, h.cap, h.max, fun hn => by
  obtain ⟨ad, e, hb, hc⟩ := h.at_ hn
  exact ⟨ad, e, by omega, fun j u hu => (hk _ (by rw [block_of_add]; exact hb)).trans (hc j u hu)⟩⟩
theorem Sl.below (h : Sl w B size A n c xs) (hb : Below B w w') : Sl w' B size A n c xs := h.keep (Nat.le_refl _) fun _ hp => hb.cell hp
theorem Sl.more (h : Sl w B size A n c xs) (hB : B ≤ B') : Sl w B' size A n c xs := h.keep hB fun _ _ => rfl
theorem Sl.drew (h : Sl w B size A n c xs) : Sl w.drew B size A n c xs := ⟨h.len, h.cap, h.max, h.at_⟩
theorem Sl.drewN (h : Sl w B size A n c xs) (k : Nat) : Sl (w.drewN k) B size A n c xs := ⟨h.len, h.cap, h.max, h.at_⟩
theorem Sl.cut (h : Sl w B size A n c xs) {k : Nat} (hk : k ≤ n) :
  Sl w B size (if c = k then A else A.map (·.add (k * size))) (n - k) (c - k) (xs.drop (k * size)) := by
 refine ⟨by rw [List.length_drop, h.len, Nat.sub_mul], by have := h.cap; omega, by have := h.max; omega, fun hn => ?_⟩
 obtain ⟨ad, rfl, hb, hcell⟩ := h.at_ (by omega)
 rw [if_neg (by have := h.cap; omega)]
 refine ⟨ad.add (k * size), rfl, by rw [block_of_add]; exact hb, fun j u hu => ?_⟩
 rw [add_of_add]
 exact hcell _ u (by rw [← hu, List.getElem?_drop])
theorem Sl.take (h : Sl w B size A n c xs) {k : Nat} (hk : k ≤ n) : Sl w B size A k c (xs.take (k * size)) := by
 refine ⟨by rw [List.length_take, h.len]; exact Nat.min_eq_left (Nat.mul_le_mul_right _ hk), by have := h.cap; omega, h.max, fun hn => ?_⟩
 obtain ⟨ad, rfl, hb, hcell⟩ := h.at_ (by omega)
 exact ⟨ad, rfl, hb, fun j u hu => hcell j u (by
  rw [List.getElem?_take] at hu
  split at hu
  ·exact hu
  ·cases hu)⟩
theorem Sl.of_own {base : Nat} {e : TypeId} (h : w.ownsRow base e size (.slice A n c) n xs) : Sl w w.heap.size size A n c xs := by
 rcases h.2 with ⟨hv, hn⟩ | ⟨g, cap, cur, hv, _, hh, hnc, hm, _⟩
 ·injection hv with h1 h2 h3
  subst h1 h2 h3
  exact ⟨h.1, Nat.le_refl _, by unfold maxLen; omega, fun h => absurd h (by omega)⟩
 ·injection hv with h1 h2 h3
  subst h1 h3
  refine ⟨h.1, hnc, hm, fun hn => ⟨_, rfl, ?_, h.cells (g := g) rfl⟩⟩
  exact (Array.getElem?_eq_some_iff.1 hh).1
end
theorem Sl.form {w : World} {B size n c : Nat} {A : Option Addr} {xs : List Value} (h : Sl w B size A n c xs) (hn : 0 < n) (hs : 0 < size) :
  ∃ b o, A = some ⟨b, o, none⟩ ∧ b < B ∧ ∀ j u, xs[j]? = some u → w.cell? ⟨b, o + j, none⟩ = some u := by
 obtain ⟨⟨b, o, s⟩, e, hb, hc⟩ := h.at_ hn
 have hl : 0 < xs.length := by rw [h.len]; exact Nat.mul_pos hn hs
 have h0 := hc 0 _ (List.getElem?_eq_getElem hl)
 have hs : s = none := by
  cases s with
  | none => rfl
  | some q =>
   have e0 : (⟨b, o, some q⟩ : Addr).add 0 = ⟨b, o, some q⟩ := rfl
   rw [e0] at h0
   unfold World.cell? at h0
   split at h0 <;> simp at h0
 subst hs
 refine ⟨b, o, e, hb, fun j u hu => ?_⟩
 have := hc j u hu
 unfold Addr.add at this
 split at this
 ·rename_i hj; subst hj; exact this
 ·exact this
theorem Sl.new (w : World) (cs : List Value) (e : TypeId) (fr : Nat × Nat) (size n : Nat) (hs : cs.length = n * size) (hn : n ≤ maxLen) {B : Nat} (hB : w.heap.size < B) :
  Sl (w.alloc (.cells cs.toArray e fr)) B size (some ⟨w.heap.size, 0, none⟩) n n cs :=
 ⟨hs, Nat.le_refl _, hn, fun _ => ⟨_, rfl, hB, fun j u hu => by
  have h := World.news_of_block (w := w.alloc (.cells cs.toArray e fr)) (heap_alloc_new w _) j u
  simpa using h (by simpa using hu)⟩⟩
theorem ext_alloc (w : World) (o : Obj) : Below w.heap.size w (w.alloc o) := (Below.refl _ _).alloc (Nat.le_refl _) o
theorem size_alloc (w : World) (o : Obj) : (w.alloc o).heap.size = w.heap.size + 1 := by simp
theorem own_nil (w : World) (base e size : Nat) : w.ownsRow base e size (.slice none 0 0) 0 [] := ⟨by simp, .inl ⟨rfl, rfl⟩⟩
theorem own_ext {w w' : World} {base e size n : Nat} {v : Value} {xs : List Value} (h : w.ownsRow base e size v n xs) (hb : Below w.heap.size w w') : w'.ownsRow base e size v n xs := by
 refine ⟨h.1, ?_⟩
 rcases h.2 with hn | ⟨g, cap, cur, rfl, h1, hgg, rest⟩
 ·exact .inl hn
 ·exact .inr ⟨g, cap, cur, rfl, h1, (hb.block g (Array.getElem?_eq_some_iff.1 hgg).1).trans hgg, rest⟩
theorem own_lit (w : World) (cs : List Value) (e : TypeId) {base size n : Nat} (hb : base ≤ w.heap.size) (hs : cs.length = n * size) (hn : n ≤ maxLen) :
  (w.alloc (.cells cs.toArray e)).ownsRow base e size (.slice (some ⟨w.heap.size, 0, none⟩) n n) n cs :=
 ⟨hs, .inr ⟨w.heap.size, n, cs.toArray, rfl, hb, heap_alloc_new w _, Nat.le_refl _, hn, by simpa using hs, by rw [← hs]; simp⟩⟩
theorem ext_trans {a b c : World} (h : Below a.heap.size a b) (k : Below b.heap.size b c) : Below a.heap.size a c := h.trans (k.mono h.size)
theorem own_more {w : World} {base base' e size n : Nat} {v : Value} {xs : List Value} (h : w.ownsRow base e size v n xs) (hb : base' ≤ base) : w.ownsRow base' e size v n xs := by
 refine ⟨h.1, ?_⟩
 rcases h.2 with hn | ⟨g, cap, cur, rfl, h1, rest⟩
 ·exact .inl hn
 ·exact .inr ⟨g, cap, cur, rfl, by omega, rest⟩
theorem own_shape {w : World} {base e size n : Nat} {v : Value} {xs : List Value} (h : w.ownsRow base e size v n xs) : ∃ A c, v = .slice A n c ∧ Sl w w.heap.size size A n c xs := by
 rcases h.2 with ⟨rfl, rfl⟩ | ⟨g, cap, cur, rfl, _⟩
 ·exact ⟨_, _, rfl, Sl.of_own h⟩
 ·exact ⟨_, _, rfl, Sl.of_own h⟩
def u8v (b : UInt8) : Value := .int .u8 (b.toNat : Int)
def u8s (l : List UInt8) : List Value := l.map u8v
theorem u8s_length (l : List UInt8) : (u8s l).length = l.length := by simp [u8s]
theorem u8s_append (l m : List UInt8) : u8s (l ++ m) = u8s l ++ u8s m := by simp [u8s]
theorem u8s_one (l : List UInt8) : ∀ u ∈ u8s l, u.oneCell' = true := by
 intro u hu
 simp only [u8s, List.mem_map] at hu
 obtain ⟨b, _, rfl⟩ := hu
 rfl
theorem u8s_at (l : List UInt8) (j : Nat) : (u8s l)[j]? = (l[j]?).map u8v := by simp [u8s]
def By (w : World) (B : Nat) (A : Option Addr) (n c : Nat) (l : List UInt8) : Prop := Sl w B 1 A n c (u8s l)
section
variable {w w' : World} {B B' n c : Nat} {A : Option Addr} {l : List UInt8}
theorem By.len (h : By w B A n c l) : l.length = n := by have := Sl.len h; rw [u8s_length] at this; omega
theorem By.at_ {k : Nat} (h : By w B A n c l) (hk : k < n) : ∃ b o, A = some ⟨b, o, none⟩ ∧ b < B ∧ ∀ j, j < n → w.cell? ⟨b, o + j, none⟩ = some (.int .u8 ((l.getD j 0).toNat : Int)) := by
 obtain ⟨b, o, e, hb, hc⟩ := Sl.form h (by omega) (by omega)
 refine ⟨b, o, e, hb, fun j hj => hc j _ ?_⟩
 have hl := h.len
 rw [u8s_at, List.getElem?_eq_getElem (by omega), List.getD_eq_getElem?_getD, List.getElem?_eq_getElem (by omega)]
 rfl
end
theorem By.byte {w : World} {B n c : Nat} {A : Option Addr} {l : List UInt8} {k : Nat} (h : By w B A n c l) (hk : k < n) :
  ∃ b o x, A = some ⟨b, o, none⟩ ∧ b < B ∧ w.cell? ⟨b, o + k, none⟩ = some (.int .u8 x) ∧ 0 ≤ x ∧ x < 256 ∧ Hid (x = ((l.getD k 0).toNat : Int)) := by
 obtain ⟨b, o, e, hb, hc⟩ := h.at_ hk
 have := (l.getD k 0).toNat_lt
 exact ⟨b, o, _, e, hb, hc k hk, by omega, by omega, rfl⟩
theorem By.take {w : World} {B n c : Nat} {A : Option Addr} {l : List UInt8} {k : Nat} (h : By w B A n c l) (hk : k ≤ n) : By w B A k c (l.take k) := by
 have := Sl.take h hk
 unfold By u8s
 rw [List.map_take]
 simpa [u8s] using this
theorem By.cut {w : World} {B n c : Nat} {A : Option Addr} {l : List UInt8} {k : Nat} (h : By w B A n c l) (hk : k ≤ n) :
  By w B (if c = k then A else A.map (·.add k)) (n - k) (c - k) (l.drop k) := by
 have := Sl.cut h hk
 unfold By u8s
 rw [List.map_drop]
 simpa [u8s] using this
def blim : Nat := 140737488355328
theorem blim_def : blim = 140737488355328 := rfl
def lim : Nat := 1099511627776
theorem lim_def : lim = 1099511627776 := rfl
abbrev Ext (w w' : World) : Prop := Below w.heap.size w w'
section
variable {P : Program} (w : World)
theorem run_append_of_nil (base : Nat) (t ty e : TypeId) (i : TypeInfo) (size : Nat) (ht : P.underlying t = some (.slice e)) (hi : P.info? e = some i)
  (v : Value) (n : Nat) (xs : List Value) (hown : w.ownsRow base e size v n xs) (c : Nat) : (Builtin.append_ #[t, t] ty #[v, .slice none 0 c]).run P w = .ok v w := by
 rcases hown.2 with ⟨rfl, rfl⟩ | ⟨g, cap, cur, rfl, _, _, hnc, _⟩
 ·simp [Builtin.append_, run_underlying ht, sizeOf, typeInfo, hi, Builtin.lenOf, Builtin.firstCells]
 ·simp [Builtin.append_, run_underlying ht, sizeOf, typeInfo, hi, Builtin.lenOf, Builtin.firstCells, hnc, storeCells]
theorem run_append_sl (base : Nat) (t ty e : TypeId) (i : TypeInfo) (z : Value) (size bytes : Nat) (ht : P.underlying t = some (.slice e)) (hi : P.info? e = some i) (hz : i.zero = some z)
  (hsize : i.size = size) (hby : i.bytes = bytes) (hzs : z.cells.size = size) (hsz : 0 < size)
  (v : Value) (n : Nat) (xs : List Value) (hown : w.ownsRow base e size v n xs)
  (B : Nat) (A : Option Addr) (m c : Nat) (news : List Value) (hr : Sl w B size A m c news) (h1 : ∀ u ∈ news, u.oneCell' = true)
  (h63 : n + m ≤ maxLen) (hbytes : (n + m) * bytes ≤ 140737488355328) (hbase : base ≤ w.heap.size) :
  ∃ v' w', (Builtin.append_ #[t, t] ty #[v, .slice A m c]).run P w = .ok v' w' ∧ w'.ownsRow base e size v' (n + m) (xs ++ news) ∧ w.grownBy w' v.ownBlock ∧
   (v'.ownBlock = v.ownBlock ∨ v'.ownBlock = some w.heap.size) := by
 rcases A with _ | ad
 ·have hm : m = 0 := by
   rcases Nat.eq_zero_or_pos m with h0 | h0
   ·exact h0
   ·obtain ⟨ad, h, _⟩ := hr.at_ h0
    cases h
  subst hm
  have hn : news = [] := List.eq_nil_of_length_eq_zero (by simpa using hr.len)
  subst hn
  exact ⟨v, w, run_append_of_nil w base t ty e i size ht hi v n xs hown c, by simpa using hown, World.grownBy.refl w _, .inl rfl⟩
 ·have hcells : ∀ j u, news[j]? = some u → w.cell? (ad.add j) = some u := by
   intro j u hu
   rcases Nat.eq_zero_or_pos m with h0 | h0
   ·subst h0
    have hn : news = [] := List.eq_nil_of_length_eq_zero (by simpa using hr.len)
    subst hn
    simp at hu
   ·obtain ⟨ad', h, _, hc⟩ := hr.at_ h0
    injection h with h
    subst h
    exact hc j u hu
  obtain ⟨v', w', hrun, h2, h3, _, h5⟩ := run_append_own_at (P := P) w base t ty e i z size bytes ht hi hz hsize hby hzs hsz v n xs hown ad m c news hr.len hcells h1 h63 hbytes hbase
  exact ⟨v', w', hrun, h2, h3, h5⟩
theorem below_of_grown {base : Nat} {w w' : World} {e : TypeId} {size n : Nat} {v : Value} {xs : List Value} (hown : w.ownsRow base e size v n xs) (hg : w.grownBy w' v.ownBlock) (hbase : base ≤ w.heap.size) : Below base w w' :=
 (Below.refl _ _).grown hg hbase fun k hk => (hown.lt k hk).1
theorem wp_app {o : Oper} {a : Act} {K : Act → World → Prop} {Q : Exit → Act → World → Prop} (s x : Operand) (t : TypeId)
  (ho : o.op = .call { callee := .builtin .append, args := #[s, x], argTypes := #[t, t] })
  (base : Nat) (e : TypeId) (i : TypeInfo) (z : Value) (size bytes : Nat) (ht : P.underlying t = some (.slice e)) (hi : P.info? e = some i) (hz : i.zero = some z)
  (hsize : i.size = size) (hby : i.bytes = bytes) (hzs : z.cells.size = size) (hsz : 0 < size)
  (v : Value) (n : Nat) (xs : List Value) (hs : a.eval s = v) (hown : w.ownsRow base e size v n xs)
  (B : Nat) (A : Option Addr) (m c : Nat) (news : List Value) (hx : a.eval x = .slice A m c) (hr : Sl w B size A m c news) (h1 : ∀ u ∈ news, u.oneCell' = true)
  (h63 : n + m ≤ maxLen) (hbytes : (n + m) * bytes ≤ 140737488355328) (hbase : base ≤ w.heap.size)
  (h : ∀ v' w', w'.ownsRow base e size v' (n + m) (xs ++ news) → w.grownBy w' v.ownBlock → Below base w w' → (v'.ownBlock = v.ownBlock ∨ v'.ownBlock = some w.heap.size) → K (a.put o.dst v') w') : o.wp P a w K Q := by
 obtain ⟨v', w', hrun, h2, h3, h4⟩ := run_append_sl (P := P) w base t o.type e i z size bytes ht hi hz hsize hby hzs hsz v n xs hown B A m c news hr h1 h63 hbytes hbase
 unfold Oper.wp execOp
 simp only [ho, resolve, invoke, builtin, Sem.run_bind, Sem.run_pure, Result.andThen_ok, List.map_toArray, List.map_cons, List.map_nil, hs, hx, hrun]
 exact h v' w' h2 h3 (below_of_grown hown h3 hbase) h4
end
end Go.Proofs.YtdmnmfnmaccmoaaGreatDoor
/- The program's own types: what an element weighs; append's law at each. -/
namespace Go.Proofs.YtdmnmfnmaccmoaaGreatDoor
open Go Go.RowKit
theorem info_u8 : (Tryz.prog.info? 5).map (fun i => (i.zero, i.size, i.bytes)) = some (some (.int .u8 0), 1, 1) := by kernel_rfl
section
variable {ops : Array Oper} {rest : List Oper} {o : Oper} {a : Act} {K : Act → World → Prop} {Q : Exit → Act → World → Prop} {E : Prop}
theorem wp_app_u8 {w : World} (s x : Operand)
  (ho : o.op = .call { callee := .builtin .append, args := #[s, x], argTypes := #[22, 22] })
  (base : Nat) (v : Value) (n : Nat) (xs : List Value) (hs : a.eval s = v) (hown : w.ownsRow base 5 1 v n xs)
  (B : Nat) (A : Option Addr) (m c : Nat) (news : List Value) (hx : a.eval x = .slice A m c) (hr : Sl w B 1 A m c news) (h1 : ∀ u ∈ news, u.oneCell' = true)
  (hlim : n + m ≤ blim) (hbase : base ≤ w.heap.size)
  (h : ∀ v' w', w'.ownsRow base 5 1 v' (n + m) (xs ++ news) → w.grownBy w' v.ownBlock → Below base w w' → (v'.ownBlock = v.ownBlock ∨ v'.ownBlock = some w.heap.size) → K (a.put o.dst v') w') : o.wp Tryz.prog a w K Q := by
 obtain ⟨i0, hi, hz0, hz1, hz2⟩ := info_parts info_u8
 have hl := blim_def
 exact wp_app w s x 22 ho base 5 i0 _ 1 1 Tryz.underlying22 hi hz0 hz1 hz2 rfl (by decide) v n xs hs hown B A m c news hx hr h1 (by unfold maxLen; omega) (by omega) hbase h
theorem app_u8 {w : World} (hgd : o.guard = none) (s x : Operand)
  (ho : o.op = .call { callee := .builtin .append, args := #[s, x], argTypes := #[22, 22] })
  (base : Nat) (v : Value) (n : Nat) (xs : List Value) (hs : a.eval s = v) (hown : w.ownsRow base 5 1 v n xs)
  (B : Nat) (A : Option Addr) (m c : Nat) (news : List Value) (hx : a.eval x = .slice A m c) (hr : Sl w B 1 A m c news) (h1 : ∀ u ∈ news, u.oneCell' = true)
  (hlim : n + m ≤ blim) (hbase : base ≤ w.heap.size)
  (h : ∀ v' w', w'.ownsRow base 5 1 v' (n + m) (xs ++ news) → w.grownBy w' v.ownBlock → Below base w w' → (v'.ownBlock = v.ownBlock ∨ v'.ownBlock = some w.heap.size) → wpList Tryz.prog ops Q rest (a.put o.dst v') w') : wpList Tryz.prog ops Q (o :: rest) a w :=
 wpList_plain hgd fun _ hK => wp_app_u8 s x ho base v n xs hs hown B A m c news hx hr h1 hlim hbase fun v' w' h2 h3 h4 h5 => hK _ _ (h v' w' h2 h3 h4 h5)
end
theorem info_blk : (Tryz.prog.info? 22).map (fun i => (i.zero, i.size, i.bytes)) = some (some (.slice none 0 0), 1, 24) := by kernel_rfl
section
variable {ops : Array Oper} {rest : List Oper} {o : Oper} {a : Act} {K : Act → World → Prop} {Q : Exit → Act → World → Prop} {E : Prop}
theorem wp_app_blk {w : World} (s x : Operand)
  (ho : o.op = .call { callee := .builtin .append, args := #[s, x], argTypes := #[24, 24] })
  (base : Nat) (v : Value) (n : Nat) (xs : List Value) (hs : a.eval s = v) (hown : w.ownsRow base 22 1 v n xs)
  (B : Nat) (A : Option Addr) (m c : Nat) (news : List Value) (hx : a.eval x = .slice A m c) (hr : Sl w B 1 A m c news) (h1 : ∀ u ∈ news, u.oneCell' = true)
  (hlim : n + m ≤ lim) (hbase : base ≤ w.heap.size)
  (h : ∀ v' w', w'.ownsRow base 22 1 v' (n + m) (xs ++ news) → w.grownBy w' v.ownBlock → Below base w w' → (v'.ownBlock = v.ownBlock ∨ v'.ownBlock = some w.heap.size) → K (a.put o.dst v') w') : o.wp Tryz.prog a w K Q := by
 obtain ⟨i0, hi, hz0, hz1, hz2⟩ := info_parts info_blk
 have hl := lim_def
 exact wp_app w s x 24 ho base 22 i0 _ 1 24 Tryz.underlying24 hi hz0 hz1 hz2 rfl (by decide) v n xs hs hown B A m c news hx hr h1 (by unfold maxLen; omega) (by omega) hbase h
theorem app_blk {w : World} (hgd : o.guard = none) (s x : Operand)
  (ho : o.op = .call { callee := .builtin .append, args := #[s, x], argTypes := #[24, 24] })
  (base : Nat) (v : Value) (n : Nat) (xs : List Value) (hs : a.eval s = v) (hown : w.ownsRow base 22 1 v n xs)
  (B : Nat) (A : Option Addr) (m c : Nat) (news : List Value) (hx : a.eval x = .slice A m c) (hr : Sl w B 1 A m c news) (h1 : ∀ u ∈ news, u.oneCell' = true)
  (hlim : n + m ≤ lim) (hbase : base ≤ w.heap.size)
  (h : ∀ v' w', w'.ownsRow base 22 1 v' (n + m) (xs ++ news) → w.grownBy w' v.ownBlock → Below base w w' → (v'.ownBlock = v.ownBlock ∨ v'.ownBlock = some w.heap.size) → wpList Tryz.prog ops Q rest (a.put o.dst v') w') : wpList Tryz.prog ops Q (o :: rest) a w :=
 wpList_plain hgd fun _ hK => wp_app_blk s x ho base v n xs hs hown B A m c news hx hr h1 hlim hbase fun v' w' h2 h3 h4 h5 => hK _ _ (h v' w' h2 h3 h4 h5)
end
theorem info_wr : (Tryz.prog.info? 104).map (fun i => (i.zero, i.size, i.bytes)) = some (some (.agg #[.int .i64 0, .slice none 0 0]), 2, 32) := by kernel_rfl
section
variable {ops : Array Oper} {rest : List Oper} {o : Oper} {a : Act} {K : Act → World → Prop} {Q : Exit → Act → World → Prop} {E : Prop}
theorem wp_app_wr {w : World} (s x : Operand)
  (ho : o.op = .call { callee := .builtin .append, args := #[s, x], argTypes := #[25, 25] })
  (base : Nat) (v : Value) (n : Nat) (xs : List Value) (hs : a.eval s = v) (hown : w.ownsRow base 104 2 v n xs)
  (B : Nat) (A : Option Addr) (m c : Nat) (news : List Value) (hx : a.eval x = .slice A m c) (hr : Sl w B 2 A m c news) (h1 : ∀ u ∈ news, u.oneCell' = true)
  (hlim : n + m ≤ lim) (hbase : base ≤ w.heap.size)
  (h : ∀ v' w', w'.ownsRow base 104 2 v' (n + m) (xs ++ news) → w.grownBy w' v.ownBlock → Below base w w' → (v'.ownBlock = v.ownBlock ∨ v'.ownBlock = some w.heap.size) → K (a.put o.dst v') w') : o.wp Tryz.prog a w K Q := by
 obtain ⟨i0, hi, hz0, hz1, hz2⟩ := info_parts info_wr
 have hl := lim_def
 exact wp_app w s x 25 ho base 104 i0 _ 2 32 Tryz.underlying25 hi hz0 hz1 hz2 rfl (by decide) v n xs hs hown B A m c news hx hr h1 (by unfold maxLen; omega) (by omega) hbase h
theorem app_wr {w : World} (hgd : o.guard = none) (s x : Operand)
  (ho : o.op = .call { callee := .builtin .append, args := #[s, x], argTypes := #[25, 25] })
  (base : Nat) (v : Value) (n : Nat) (xs : List Value) (hs : a.eval s = v) (hown : w.ownsRow base 104 2 v n xs)
  (B : Nat) (A : Option Addr) (m c : Nat) (news : List Value) (hx : a.eval x = .slice A m c) (hr : Sl w B 2 A m c news) (h1 : ∀ u ∈ news, u.oneCell' = true)
  (hlim : n + m ≤ lim) (hbase : base ≤ w.heap.size)
  (h : ∀ v' w', w'.ownsRow base 104 2 v' (n + m) (xs ++ news) → w.grownBy w' v.ownBlock → Below base w w' → (v'.ownBlock = v.ownBlock ∨ v'.ownBlock = some w.heap.size) → wpList Tryz.prog ops Q rest (a.put o.dst v') w') : wpList Tryz.prog ops Q (o :: rest) a w :=
 wpList_plain hgd fun _ hK => wp_app_wr s x ho base v n xs hs hown B A m c news hx hr h1 hlim hbase fun v' w' h2 h3 h4 h5 => hK _ _ (h v' w' h2 h3 h4 h5)
end
theorem info_rec : (Tryz.prog.info? 54).map (fun i => (i.zero, i.size, i.bytes)) = some (some (.agg #[.int .i64 0, .int .i64 0, .int .i64 0, .slice none 0 0]), 4, 48) := by kernel_rfl
section
variable {ops : Array Oper} {rest : List Oper} {o : Oper} {a : Act} {K : Act → World → Prop} {Q : Exit → Act → World → Prop} {E : Prop}
theorem wp_app_rec {w : World} (s x : Operand)
  (ho : o.op = .call { callee := .builtin .append, args := #[s, x], argTypes := #[46, 46] })
  (base : Nat) (v : Value) (n : Nat) (xs : List Value) (hs : a.eval s = v) (hown : w.ownsRow base 54 4 v n xs)
  (B : Nat) (A : Option Addr) (m c : Nat) (news : List Value) (hx : a.eval x = .slice A m c) (hr : Sl w B 4 A m c news) (h1 : ∀ u ∈ news, u.oneCell' = true)
  (hlim : n + m ≤ lim) (hbase : base ≤ w.heap.size)
  (h : ∀ v' w', w'.ownsRow base 54 4 v' (n + m) (xs ++ news) → w.grownBy w' v.ownBlock → Below base w w' → (v'.ownBlock = v.ownBlock ∨ v'.ownBlock = some w.heap.size) → K (a.put o.dst v') w') : o.wp Tryz.prog a w K Q := by
 obtain ⟨i0, hi, hz0, hz1, hz2⟩ := info_parts info_rec
 have hl := lim_def
 exact wp_app w s x 46 ho base 54 i0 _ 4 48 Tryz.underlying46 hi hz0 hz1 hz2 rfl (by decide) v n xs hs hown B A m c news hx hr h1 (by unfold maxLen; omega) (by omega) hbase h
theorem app_rec {w : World} (hgd : o.guard = none) (s x : Operand)
  (ho : o.op = .call { callee := .builtin .append, args := #[s, x], argTypes := #[46, 46] })
  (base : Nat) (v : Value) (n : Nat) (xs : List Value) (hs : a.eval s = v) (hown : w.ownsRow base 54 4 v n xs)
  (B : Nat) (A : Option Addr) (m c : Nat) (news : List Value) (hx : a.eval x = .slice A m c) (hr : Sl w B 4 A m c news) (h1 : ∀ u ∈ news, u.oneCell' = true)
  (hlim : n + m ≤ lim) (hbase : base ≤ w.heap.size)
  (h : ∀ v' w', w'.ownsRow base 54 4 v' (n + m) (xs ++ news) → w.grownBy w' v.ownBlock → Below base w w' → (v'.ownBlock = v.ownBlock ∨ v'.ownBlock = some w.heap.size) → wpList Tryz.prog ops Q rest (a.put o.dst v') w') : wpList Tryz.prog ops Q (o :: rest) a w :=
 wpList_plain hgd fun _ hK => wp_app_rec s x ho base v n xs hs hown B A m c news hx hr h1 hlim hbase fun v' w' h2 h3 h4 h5 => hK _ _ (h v' w' h2 h3 h4 h5)
end
theorem info_ent : (Tryz.prog.info? 78).map (fun i => (i.zero, i.size, i.bytes)) = some (some (.agg #[.int .i64 0, .int .i64 0, .int .i64 0, .slice none 0 0, .int .i64 0]), 5, 56) := by kernel_rfl
section
variable {ops : Array Oper} {rest : List Oper} {o : Oper} {a : Act} {K : Act → World → Prop} {Q : Exit → Act → World → Prop} {E : Prop}
theorem wp_app_ent {w : World} (s x : Operand)
  (ho : o.op = .call { callee := .builtin .append, args := #[s, x], argTypes := #[28, 28] })
  (base : Nat) (v : Value) (n : Nat) (xs : List Value) (hs : a.eval s = v) (hown : w.ownsRow base 78 5 v n xs)
  (B : Nat) (A : Option Addr) (m c : Nat) (news : List Value) (hx : a.eval x = .slice A m c) (hr : Sl w B 5 A m c news) (h1 : ∀ u ∈ news, u.oneCell' = true)
  (hlim : n + m ≤ lim) (hbase : base ≤ w.heap.size)
  (h : ∀ v' w', w'.ownsRow base 78 5 v' (n + m) (xs ++ news) → w.grownBy w' v.ownBlock → Below base w w' → (v'.ownBlock = v.ownBlock ∨ v'.ownBlock = some w.heap.size) → K (a.put o.dst v') w') : o.wp Tryz.prog a w K Q := by
 obtain ⟨i0, hi, hz0, hz1, hz2⟩ := info_parts info_ent
 have hl := lim_def
 exact wp_app w s x 28 ho base 78 i0 _ 5 56 Tryz.underlying28 hi hz0 hz1 hz2 rfl (by decide) v n xs hs hown B A m c news hx hr h1 (by unfold maxLen; omega) (by omega) hbase h
theorem app_ent {w : World} (hgd : o.guard = none) (s x : Operand)
  (ho : o.op = .call { callee := .builtin .append, args := #[s, x], argTypes := #[28, 28] })
  (base : Nat) (v : Value) (n : Nat) (xs : List Value) (hs : a.eval s = v) (hown : w.ownsRow base 78 5 v n xs)
  (B : Nat) (A : Option Addr) (m c : Nat) (news : List Value) (hx : a.eval x = .slice A m c) (hr : Sl w B 5 A m c news) (h1 : ∀ u ∈ news, u.oneCell' = true)
  (hlim : n + m ≤ lim) (hbase : base ≤ w.heap.size)
  (h : ∀ v' w', w'.ownsRow base 78 5 v' (n + m) (xs ++ news) → w.grownBy w' v.ownBlock → Below base w w' → (v'.ownBlock = v.ownBlock ∨ v'.ownBlock = some w.heap.size) → wpList Tryz.prog ops Q rest (a.put o.dst v') w') : wpList Tryz.prog ops Q (o :: rest) a w :=
 wpList_plain hgd fun _ hK => wp_app_ent s x ho base v n xs hs hown B A m c news hx hr h1 hlim hbase fun v' w' h2 h3 h4 h5 => hK _ _ (h v' w' h2 h3 h4 h5)
end
theorem info_int : (Tryz.prog.info? 3).map (fun i => (i.zero, i.size, i.bytes)) = some (some (.int .i64 0), 1, 8) := by kernel_rfl
section
variable {ops : Array Oper} {rest : List Oper} {o : Oper} {a : Act} {K : Act → World → Prop} {Q : Exit → Act → World → Prop} {E : Prop}
theorem wp_app_int {w : World} (s x : Operand)
  (ho : o.op = .call { callee := .builtin .append, args := #[s, x], argTypes := #[44, 44] })
  (base : Nat) (v : Value) (n : Nat) (xs : List Value) (hs : a.eval s = v) (hown : w.ownsRow base 3 1 v n xs)
  (B : Nat) (A : Option Addr) (m c : Nat) (news : List Value) (hx : a.eval x = .slice A m c) (hr : Sl w B 1 A m c news) (h1 : ∀ u ∈ news, u.oneCell' = true)
  (hlim : n + m ≤ lim) (hbase : base ≤ w.heap.size)
  (h : ∀ v' w', w'.ownsRow base 3 1 v' (n + m) (xs ++ news) → w.grownBy w' v.ownBlock → Below base w w' → (v'.ownBlock = v.ownBlock ∨ v'.ownBlock = some w.heap.size) → K (a.put o.dst v') w') : o.wp Tryz.prog a w K Q := by
 obtain ⟨i0, hi, hz0, hz1, hz2⟩ := info_parts info_int
 have hl := lim_def
 exact wp_app w s x 44 ho base 3 i0 _ 1 8 Tryz.underlying44 hi hz0 hz1 hz2 rfl (by decide) v n xs hs hown B A m c news hx hr h1 (by unfold maxLen; omega) (by omega) hbase h
theorem app_int {w : World} (hgd : o.guard = none) (s x : Operand)
  (ho : o.op = .call { callee := .builtin .append, args := #[s, x], argTypes := #[44, 44] })
  (base : Nat) (v : Value) (n : Nat) (xs : List Value) (hs : a.eval s = v) (hown : w.ownsRow base 3 1 v n xs)
  (B : Nat) (A : Option Addr) (m c : Nat) (news : List Value) (hx : a.eval x = .slice A m c) (hr : Sl w B 1 A m c news) (h1 : ∀ u ∈ news, u.oneCell' = true)
  (hlim : n + m ≤ lim) (hbase : base ≤ w.heap.size)
  (h : ∀ v' w', w'.ownsRow base 3 1 v' (n + m) (xs ++ news) → w.grownBy w' v.ownBlock → Below base w w' → (v'.ownBlock = v.ownBlock ∨ v'.ownBlock = some w.heap.size) → wpList Tryz.prog ops Q rest (a.put o.dst v') w') : wpList Tryz.prog ops Q (o :: rest) a w :=
 wpList_plain hgd fun _ hK => wp_app_int s x ho base v n xs hs hown B A m c news hx hr h1 hlim hbase fun v' w' h2 h3 h4 h5 => hK _ _ (h v' w' h2 h3 h4 h5)
end
theorem info_eno : (Tryz.prog.info? 35).map (fun i => (i.zero, i.size, i.bytes)) = some (some (.int .i64 0), 1, 8) := by kernel_rfl
section
variable {ops : Array Oper} {rest : List Oper} {o : Oper} {a : Act} {K : Act → World → Prop} {Q : Exit → Act → World → Prop} {E : Prop}
end
theorem strOfNums_u8 (l : List UInt8) : strOfNums (l.map fun x => (x.toNat : Int)) = ⟨l.toArray⟩ := by
 unfold strOfNums
 rw [List.map_map]
 have : (fun n : Int => UInt8.ofNat n.toNat) ∘ (fun x : UInt8 => (x.toNat : Int)) = id := by
  funext x
  simp
 rw [this, List.map_id]
theorem run_str {w : World} {B n c : Nat} {A : Option Addr} {l : List UInt8} (h : By w B A n c l) :
  (convert 22 9 (.slice A n c)).run Tryz.prog w = .ok (.string ⟨l.toArray⟩) w := by
 rcases Nat.eq_zero_or_pos n with h0 | h0
 ·subst h0
  have hl : l = [] := List.eq_nil_of_length_eq_zero h.len
  subst hl
  cases A with
  | none => exact run_convert_bytes_nil w _ _ Tryz.underlying22 Tryz.underlying5 _ _ _ Tryz.underlying9
  | some ad =>
   rw [run_convert_bytes_string w _ _ _ _ 0 c Tryz.underlying22 Tryz.underlying5 Tryz.underlying9]
   have := run_bytesToString (P := Tryz.prog) w ad 0 c [] (by simp [loadCells, loadCellsFrom])
   rw [this]; rfl
 ·obtain ⟨b, o, rfl, hb, hc⟩ := h.at_ (k := 0) h0
  have := run_convert_bytes_arg (P := Tryz.prog) w _ _ Tryz.underlying22 Tryz.underlying5 b o n c (l.map fun x => (x.toNat : Int)) (by simpa using h.len)
   (fun i hi => by
    rw [hc i hi]
    have hl := h.len
    simp [List.getD_eq_getElem?_getD, List.getElem?_map, List.getElem?_eq_getElem (show i < l.length by omega)]) _ Tryz.underlying9
  rw [this, strOfNums_u8]
theorem by_own {w : World} {base n c : Nat} {A : Option Addr} {l : List UInt8} (h : w.ownsRow base 5 1 (.slice A n c) n (u8s l)) : By w w.heap.size A n c l := Sl.of_own h
end Go.Proofs.YtdmnmfnmaccmoaaGreatDoor
/- An argument's reading, opened to the words of XWords. -/
namespace Go.Proofs.YtdmnmfnmaccmoaaGreatDoor
open Go Go.RowKit Go.ChangeShapes Go.WideShapes Go.ChangeAt
theorem cells_u8 : Tryz.prog.cellsOf 5 = 1 := by kernel_rfl
theorem bytes_u8 : Tryz.prog.bytesOf 5 = 1 := by kernel_rfl
section
variable {H : Type} {enc : TypeId × Value → H} {w : World} {base : Nat} {spare : Nat → Bool} {held : Bool}
theorem lt_cell {w : World} {a : Addr} {v : Value} (h : w.cell? a = some v) : a.block < w.heap.size := block_lt_of_cell h
theorem trod_by {fuel : Nat} {cs : List Value} {x : DataW H × List MemPlace} (h : DataW.trod enc Tryz.prog w base spare held fuel 22 cs = some x) :
  ∃ A n c l, cs = [.slice A n c] ∧ By w w.heap.size A n c l ∧ (n = 0 ∨ ∃ es sp, x.1 = .slice es sp ∧ es.length = n) := by
 rcases open_ints Tryz.underlying22 Tryz.underlying5 cells_u8 h with ⟨hcs, _⟩ | ⟨a, len, cap, zs, hcs, _, hl, hm, hz, hx, hcell, hwz⟩
 ·exact ⟨none, 0, 0, [], hcs, Sl.nil_ _ _ _, .inl rfl⟩
 ·have hzl : len ≤ zs.length := by rw [hz]; split <;> omega
  refine ⟨some a, len, cap, (zs.take len).map b8, hcs, ⟨by simp [u8s]; omega, hl, hm, fun hn => ⟨a, rfl, ?_, fun j u hu => ?_⟩⟩, .inr ⟨_, _, by rw [hx], by simp [lits]; omega⟩⟩
  ·have h0 := lt_cell (hcell 0 (by omega))
   rwa [block_of_add] at h0
  ·unfold u8s at hu
   rw [List.map_map, List.getElem?_map] at hu
   have hj : j < len := by
    rcases Nat.lt_or_ge j len with h | h
    ·exact h
    ·rw [List.getElem?_eq_none (by simp; omega)] at hu; cases hu
   rw [hcell j (by omega)]
   rw [List.getElem?_eq_getElem (by simp; omega)] at hu
   simp only [List.getElem_take, Option.map_some, Option.some.injEq] at hu
   subst hu
   have hw := hwz (zs[j]'(by omega)) (List.getElem_mem _)
   simp only [Lit.wf, Bool.and_eq_true, decide_eq_true_eq] at hw
   have h0 : IntKind.u8.min = 0 := rfl
   have h1 : IntKind.u8.max = 255 := rfl
   rw [h0, h1] at hw
   simp only [u8v, Function.comp, List.getD_eq_getElem?_getD, List.getElem?_eq_getElem (show j < zs.length by omega), Option.getD_some]
   congr 2
   rw [b8_toNat]
   omega
theorem bd_i64 {n : Int} (h : (Lit.int .i64 n).wf = true) : -9223372036854775808 ≤ n ∧ n ≤ 9223372036854775807 := by
 simp only [Lit.wf, Bool.and_eq_true, decide_eq_true_eq] at h
 exact h
end
end Go.Proofs.YtdmnmfnmaccmoaaGreatDoor
/- An argument's reading, opened: records; and the sizes that hold within. -/
namespace Go.Proofs.YtdmnmfnmaccmoaaGreatDoor
open Go Go.RowKit Go.ChangeShapes Go.WideShapes Go.ChangeAt
theorem len2 {α : Type} : ∀ (l : List α), l.length = 2 → ∃ a b, l = [a, b]
 | [a, b], _ => ⟨a, b, rfl⟩
theorem len4 {α : Type} : ∀ (l : List α), l.length = 4 → ∃ a b c d, l = [a, b, c, d]
 | [a, b, c, d], _ => ⟨a, b, c, d, rfl⟩
def Fits {H : Type} (P : Program) (t : TypeId) (d : DataW H) : Prop := ∀ n ∈ d.weights P t, n ≤ reachBytes
section
variable {H : Type} {P : Program} {t : TypeId}
theorem fits_slice {e : TypeId} {es sp : List (DataW H)} (h : Fits P t (.slice es sp)) (hu : P.underlying t = some (.slice e)) : (es.length + sp.length) * P.bytesOf e ≤ reachBytes :=
 h _ (by simp [DataW.weights, hu])
theorem weights_all {e : TypeId} : ∀ {l : List (DataW H)} {i : Nat} {d : DataW H}, l[i]? = some d → ∀ n ∈ d.weights P e, n ∈ DataW.weightsAll P e l
 | x :: r, 0, d, h, n, hn => by simp at h; subst h; simp only [DataW.weightsAll, List.mem_append]; exact .inl hn
 | x :: r, i + 1, d, h, n, hn => by simp only [DataW.weightsAll, List.mem_append]; exact .inr (weights_all (by simpa using h) n hn)
theorem fits_elem {e : TypeId} {es sp : List (DataW H)} (h : Fits P t (.slice es sp)) (hu : P.underlying t = some (.slice e)) {i : Nat} {d : DataW H} (hd : es[i]? = some d) : Fits P e d :=
 fun n hn => h _ (by simp only [DataW.weights, hu, List.mem_cons, List.mem_append]; exact .inr (.inl (weights_all hd n hn)))
theorem fits_field {fs : Array Field} {parts : List (DataW H)} (h : Fits P t (.agg parts)) (hu : P.underlying t = some (.struct fs)) (i : Nat) {f : Field} {d : DataW H} (hf : fs[i]? = some f) (hd : parts[i]? = some d) : Fits P f.type d :=
 fun n hn => h _ (by simp only [DataW.weights, hu]; exact DataW.weights_mem_each (j := i) (by simp [hf]) hd n hn)
end
structure RecIn (w : World) (B : Nat) (A : Option Addr) (n c : Nat) (r : Rec) : Prop where
 at_ : By w B A n c r.data
 small : n + 4096 ≤ blim
 kind : -9223372036854775808 ≤ r.kind ∧ r.kind ≤ 9223372036854775807
 key : -9223372036854775808 ≤ r.key ∧ r.key ≤ 9223372036854775807
 ver : -9223372036854775808 ≤ r.ver ∧ r.ver ≤ 9223372036854775807
section
variable {H : Type} {enc : TypeId × Value → H} {w : World} {base : Nat} {spare : Nat → Bool} {held : Bool}
theorem in_by {fuel : Nat} {cs : List Value} {x : DataW H × List MemPlace} (h : DataW.trod enc Tryz.prog w base spare held fuel 22 cs = some x) (hf : Fits Tryz.prog 22 x.1) :
  ∃ A n c l, cs = [.slice A n c] ∧ By w w.heap.size A n c l ∧ n + 4096 ≤ blim := by
 obtain ⟨A, n, c, l, hcs, hb, hz⟩ := trod_by h
 refine ⟨A, n, c, l, hcs, hb, ?_⟩
 rw [blim_def]
 rcases hz with rfl | ⟨es, sp, hd, rfl⟩
 ·omega
 ·rw [hd] at hf
  have hh := fits_slice hf Tryz.underlying22
  rw [bytes_u8] at hh
  have hr : reachBytes = 140737488351232 := rfl
  omega
theorem in_int {fuel : Nat} {cs : List Value} {x : DataW H × List MemPlace} (h : DataW.trod enc Tryz.prog w base spare held fuel 3 cs = some x) :
  ∃ n, cs = [.int .i64 n] ∧ -9223372036854775808 ≤ n ∧ n ≤ 9223372036854775807 := by
 obtain ⟨n, hcs, _, hw⟩ := DataW.trod_int Tryz.underlying3 h
 exact ⟨n, hcs, bd_i64 hw⟩
theorem cells_int : Tryz.prog.cellsOf 3 = 1 := by kernel_rfl
theorem cells_bytes : Tryz.prog.cellsOf 22 = 1 := by kernel_rfl
theorem cells_rec : Tryz.prog.cellsOf 54 = 4 := by kernel_rfl
theorem in_rec {fuel : Nat} {cs : List Value} {x : DataW H × List MemPlace} (h : DataW.trod enc Tryz.prog w base spare held fuel 54 cs = some x) (hf : Fits Tryz.prog 54 x.1) :
  ∃ A n c r, cs = [.int .i64 r.kind, .int .i64 r.key, .int .i64 r.ver, .slice A n c] ∧ RecIn w w.heap.size A n c r := by
 obtain ⟨xs, m, _, rfl, hl, hlen, ht⟩ := DataW.trod_struct Tryz.underlying54 h
 have h0 := ht 0 _ rfl
 have h1 := ht 1 _ rfl
 have h2 := ht 2 _ rfl
 have h3 := ht 3 _ rfl
 rw [cells_rec] at hl
 obtain ⟨y0, y1, y2, y3, rfl⟩ := len4 xs hlen
 obtain ⟨a, b, c, d, rfl⟩ := len4 cs hl
 simp only [List.getElem_toArray, List.getElem_cons_zero, List.getElem_cons_succ, cells_int, cells_bytes, List.drop_zero, List.drop_succ_cons, List.take_succ_cons, List.take_zero, List.getElem?_cons_zero, List.getElem?_cons_succ] at h0 h1 h2 h3
 obtain ⟨k, ek, hk⟩ := in_int h0
 obtain ⟨e, ee, he⟩ := in_int h1
 obtain ⟨v, ev, hv⟩ := in_int h2
 obtain ⟨A, n, cp, l, es, hb, hz⟩ := in_by h3 (fits_field hf Tryz.underlying54 3 rfl rfl)
 simp only [List.cons.injEq, and_true] at ek ee ev es
 subst ek ee ev es
 exact ⟨A, n, cp, ⟨k, e, v, l⟩, rfl, hb, hz, hk, he, hv⟩
end
end Go.Proofs.YtdmnmfnmaccmoaaGreatDoor
/- Boxes: whole blocks of the call's own, kept behind calls; results through a cell. No program here. -/
namespace Go.Proofs.YtdmnmfnmaccmoaaGreatDoor
open Go Go.RowKit
abbrev Box (w : World) (g : Nat) (t : TypeId) (cs : Array Value) : Prop := w.heap[g]? = some (.cells cs t (0, 0))
section
variable {w w' : World} {g B : Nat} {t : TypeId} {cs : Array Value}
theorem Box.cell (h : Box w g t cs) (j : Nat) {v : Value} (hj : cs[j]? = some v) : w.cell? ⟨g, j, none⟩ = some v := by simp [World.cell?, h, hj]
theorem Box.free (h : Box w g t cs) (j : Nat) : w.frozen? ⟨g, j, none⟩ = false := by simp [World.frozen?, h]
theorem Box.lt (h : Box w g t cs) : g < w.heap.size := (Array.getElem?_eq_some_iff.1 h).1
theorem Box.below (h : Box w g t cs) (hb : Below B w w') (hg : g < B) : Box w' g t cs := (hb.block g hg).trans h
theorem Box.ext (h : Box w g t cs) (hb : Ext w w') : Box w' g t cs := h.below hb h.lt
theorem Box.new (w : World) (cs : Array Value) (t : TypeId) {g : Nat} (hg : g = w.heap.size) : Box (w.alloc (.cells cs t)) g t cs := by
 subst hg
 show (w.heap.push _)[w.heap.size]? = _
 simp
theorem Box.alloc (h : Box w g t cs) (o : Obj) : Box (w.alloc o) g t cs := h.ext (ext_alloc _ _)
theorem Box.drew (h : Box w g t cs) : Box w.drew g t cs := h
theorem Box.drewN (h : Box w g t cs) (n : Nat) : Box (w.drewN n) g t cs := h
theorem Box.set (h : Box w g t cs) (j : Nat) (v : Value) : Box (w.setCell ⟨g, j, none⟩ v) g t (cs.setIfInBounds j v) := by
 unfold Box at *
 simp [World.setCell, Array.getElem?_modify, h]
theorem Box.setOther (h : Box w g t cs) {p : Addr} (hp : g ≠ p.block) (v : Value) : Box (w.setCell p v) g t cs := (Below.heap_setCell w p v g hp).trans h
end
theorem own_box {w : World} {g base : Nat} {t : TypeId} {cs : List Value} {n size : Nat} (h : Box w g t cs.toArray) (hb : base ≤ g) (hs : cs.length = n * size) (hn : n ≤ maxLen) : w.ownsRow base t size (.slice (some ⟨g, 0, none⟩) n n) n cs :=
 ⟨hs, .inr ⟨g, n, cs.toArray, rfl, hb, h, Nat.le_refl _, hn, by simpa using hs, by rw [← hs]; simp⟩⟩
theorem own_set {w : World} {base e size n : Nat} {v : Value} {xs : List Value} (h : w.ownsRow base e size v n xs) {p : Addr} (hp : p.block < base) (u : Value) : (w.setCell p u).ownsRow base e size v n xs := by
 refine ⟨h.1, ?_⟩
 rcases h.2 with hn | ⟨g, cap, cur, rfl, h1, hgg, rest⟩
 ·exact .inl hn
 ·exact .inr ⟨g, cap, cur, rfl, h1, (Below.heap_setCell w p u g (by omega)).trans hgg, rest⟩
theorem own_alloc {w : World} {base e size n : Nat} {v : Value} {xs : List Value} (h : w.ownsRow base e size v n xs) (o : Obj) : (w.alloc o).ownsRow base e size v n xs := own_ext h (ext_alloc _ _)
theorem Sl.alloc {w : World} {B size n c : Nat} {A : Option Addr} {xs : List Value} (h : Sl w B size A n c xs) (hB : B ≤ w.heap.size) (o : Obj) : Sl (w.alloc o) B size A n c xs := Sl.below h ((ext_alloc _ _).mono hB)
theorem Sl.set {w : World} {B size n c : Nat} {A : Option Addr} {xs : List Value} (h : Sl w B size A n c xs) {p : Addr} (hp : B ≤ p.block) (u : Value) : Sl (w.setCell p u) B size A n c xs :=
 Sl.below h ((Below.refl _ _).setCell hp u)
theorem Sl.grown {w w' : World} {B size n c : Nat} {A : Option Addr} {xs : List Value} {row : Option Nat} (h : Sl w B size A n c xs) (hB : B ≤ w.heap.size) (hg : w.grownBy w' row) (hne : ∀ ad, A = some ad → some ad.block ≠ row) : Sl w' B size A n c xs :=
 ⟨h.len, h.cap, h.max, fun hn => by
  obtain ⟨ad, e, hb, hc⟩ := h.at_ hn
  exact ⟨ad, e, hb, fun j u hu => (World.cell?_of_block (w := w) (a := ad.add j) (by rw [block_of_add]; exact hg.block _ (by omega) (hne ad e))).trans (hc j u hu)⟩⟩
theorem size_set (w : World) (p : Addr) (u : Value) : (w.setCell p u).heap.size = w.heap.size := by simp [World.setCell]
theorem results_cell1 {fn : Func} {p : Tmp} {ty : TypeId} (h : fn.results = #[.cell p ty]) (tmps : Array Value) (P : Program) (w : World) :
  (results fn tmps).run P w = ((asAddr (tmps.getD p undef)).run P w).andThen fun a w₁ => (loadVar ty a).run P w₁ := by
 simp only [results, h]
 simp [Sem.run_bind, Result.andThen]
theorem below_drewN {B : Nat} {a w : World} (h : Below B a w) (n : Nat) : Below B a (w.drewN n) := ⟨h.os, h.tape, h.output, h.size, h.block⟩
end Go.Proofs.YtdmnmfnmaccmoaaGreatDoor
/- Plain: records and blocks (chapter 2). -/
namespace Go.Proofs.YtdmnmfnmaccmoaaGreatDoor
def rSame (a b : Rec) : Bool := decide (a.kind = b.kind) && decide (a.key = b.key) && decide (a.ver = b.ver) && (a.data == b.data)
def rWrong (r : Rec) : Int :=
 if r.kind < 1 ∨ 3 < r.kind then 1
 else if r.kind = 1 ∧ (r.key ≠ 0 ∨ r.ver ≠ 0) then 3
 else if r.kind ≠ 1 ∧ (r.key < 1 ∨ 255 < r.key ∨ r.ver < 1 ∨ 60000 < r.ver) then 3
 else if 8 < r.data.length ∨ r.kind ≠ 2 ∧ 0 < r.data.length then 4
 else 0
def rZero : Rec := ⟨0, 0, 0, []⟩
def rFree : Rec := ⟨1, 0, 0, []⟩
def rBody (r : Rec) (at_ : Int) : List UInt8 :=
 [b8 r.kind, b8 at_, b8 r.key] ++ sTwo r.ver ++ [b8 r.data.length] ++ r.data ++ List.replicate (8 - r.data.length) 0
def rBytes (r : Rec) (at_ : Int) : List UInt8 := sSeal (rBody r at_)
def rTold (b : List UInt8) : Rec :=
 ⟨((b.getD 0 0).toNat : Int), ((b.getD 2 0).toNat : Int), sNum (b.getD 3 0) (b.getD 4 0), (b.drop 6).take (b.getD 5 0).toNat⟩
def rRead (b : List UInt8) (at_ : Int) : Rec × Int :=
 if b.length ≠ 16 then (rZero, 2)
 else if sSealed b = false then (rZero, 7)
 else if ((b.getD 1 0).toNat : Int) ≠ at_ then (rZero, 8)
 else if 8 < (b.getD 5 0).toNat then (rZero, 4)
 else if ((b.drop (6 + (b.getD 5 0).toNat)).take (8 - (b.getD 5 0).toNat)).any (fun c => c != 0) then (rZero, 2)
 else if rWrong (rTold b) ≠ 0 then (rZero, rWrong (rTold b))
 else (rTold b, 0)
theorem rSame_iff (a b : Rec) : rSame a b = true ↔ a = b := by
 cases a; cases b
 simp [rSame, and_assoc]
end Go.Proofs.YtdmnmfnmaccmoaaGreatDoor
/- Data in memory by kinds of blocks: bytes and rows that lie below a base, or in blocks of listed kinds; kept as long as those blocks are. No walk here. -/
namespace Go.Proofs.YtdmnmfnmaccmoaaGreatDoor
open Go Go.RowKit
def Fp (T : List TypeId) (w : World) (base b : Nat) : Prop := b < base ∨ ∃ cur, ∃ t, t ∈ 5 :: T ∧ w.heap[b]? = some (.cells cur t (0, 0))
structure Kept (T : List TypeId) (base : Nat) (w w' : World) : Prop where
 size : w.heap.size ≤ w'.heap.size
 block : ∀ b, b < w.heap.size → Fp T w base b → w'.heap[b]? = w.heap[b]?
section
variable {T T' : List TypeId} {base base' b : Nat} {w w' w'' : World}
theorem Fp.kept (h : Fp T w base b) (hb : b < w.heap.size) (k : Kept T base w w') : Fp T w' base b := by
 rcases h with h | ⟨cur, t, ht, e⟩
 ·exact .inl h
 ·exact .inr ⟨cur, t, ht, (k.block b hb (.inr ⟨cur, t, ht, e⟩)).trans e⟩
theorem Fp.sub (h : Fp T w base b) (hT : T ⊆ T') (hb : base ≤ base') : Fp T' w base' b := by
 rcases h with h | ⟨cur, t, ht, e⟩
 ·exact .inl (by omega)
 ·exact .inr ⟨cur, t, List.cons_subset_cons _ hT ht, e⟩
theorem Kept.refl (T : List TypeId) (base : Nat) (w : World) : Kept T base w w := ⟨Nat.le_refl _, fun _ _ _ => rfl⟩
theorem Kept.trans (h : Kept T base w w') (k : Kept T base w' w'') : Kept T base w w'' :=
 ⟨Nat.le_trans h.size k.size, fun b hb hf => (k.block b (Nat.lt_of_lt_of_le hb h.size) (hf.kept hb h)).trans (h.block b hb hf)⟩
theorem Kept.ext (h : Ext w w') : Kept T base w w' := ⟨h.size, fun b hb _ => h.block b hb⟩
theorem Kept.sub (h : Kept T base w w') (hT : T' ⊆ T) (hb : base' ≤ base) : Kept T' base' w w' := ⟨h.size, fun b hl hf => h.block b hl (hf.sub hT hb)⟩
theorem Kept.set {g : Nat} {t : TypeId} {cs : Array Value} (hb : Box w g t cs) (ht : t ∉ 5 :: T) (hg : base ≤ g) (j : Nat) (u : Value) : Kept T base w (w.setCell ⟨g, j, none⟩ u) :=
 ⟨by rw [size_set]; exact Nat.le_refl _, fun b _ hf => Below.heap_setCell _ _ _ _ (by
  intro e0
  have e1 : b = g := e0
  rw [e1] at hf
  rcases hf with h | ⟨cur, t', ht', e⟩
  ·omega
  ·rw [show w.heap[g]? = _ from hb] at e
   injection e with e
   injection e with _ e
   subst e
   exact ht ht')⟩
theorem Kept.grown {row : Option Nat} (hg : w.grownBy w' row) (hr : ∀ g, row = some g → base ≤ g ∧ ∀ cur t, t ∈ 5 :: T → w.heap[g]? ≠ some (.cells cur t (0, 0))) : Kept T base w w' :=
 ⟨hg.size, fun b hb hf => hg.block b hb fun e => by
  obtain ⟨h1, h2⟩ := hr b e.symm
  rcases hf with h | ⟨cur, t, ht, e'⟩
  ·omega
  ·exact h2 cur t ht e'⟩
theorem Kept.app {rb e size n : Nat} {v : Value} {xs : List Value} (ho : w.ownsRow rb e size v n xs) (hg : w.grownBy w' v.ownBlock) (he : e ∉ 5 :: T) (hb : base ≤ rb) : Kept T base w w' :=
 Kept.grown hg fun g hgg => by
  rcases ho.2 with ⟨rfl, _⟩ | ⟨g', cap, cur, rfl, h1, h2, _⟩
  ·cases hgg
  ·simp only [Value.ownBlock, Option.some.injEq] at hgg
   subst hgg
   refine ⟨by omega, fun cur' t ht e' => ?_⟩
   rw [h2] at e'
   injection e' with e'
   injection e' with _ e'
   subst e'
   exact he ht
end
def SlT (T : List TypeId) (w : World) (base size : Nat) (A : Option Addr) (n c : Nat) (xs : List Value) : Prop :=
 Sl w w.heap.size size A n c xs ∧ (0 < n → ∀ ad, A = some ad → Fp T w base ad.block)
section
variable {T T' : List TypeId} {base base' size n c : Nat} {A : Option Addr} {xs : List Value} {w w' : World}
theorem SlT.kept (h : SlT T w base size A n c xs) (k : Kept T base w w') : SlT T w' base size A n c xs := by
 obtain ⟨hs, hf⟩ := h
 have hne : ∀ ad, 0 < n → A = some ad → ad.block < w.heap.size ∧ w'.heap[ad.block]? = w.heap[ad.block]? := by
  intro ad hn e
  obtain ⟨ad', e', hb, _⟩ := hs.at_ hn
  rw [e] at e'
  injection e' with e'
  subst e'
  exact ⟨hb, k.block _ hb (hf hn _ e)⟩
 refine ⟨⟨hs.len, hs.cap, hs.max, fun hn => ?_⟩, fun hn ad e => (hf hn ad e).kept (hne ad hn e).1 k⟩
 obtain ⟨ad, e, hb, hc⟩ := hs.at_ hn
 exact ⟨ad, e, Nat.lt_of_lt_of_le hb k.size, fun j u hu => (World.cell?_of_block (w := w) (a := ad.add j) (by rw [block_of_add]; exact (hne ad hn e).2)).trans (hc j u hu)⟩
theorem SlT.sub (h : SlT T w base size A n c xs) (hT : T ⊆ T') (hb : base ≤ base') : SlT T' w base' size A n c xs := ⟨h.1, fun hn ad e => (h.2 hn ad e).sub hT hb⟩
theorem SlT.of_sl {B : Nat} (h : Sl w B size A n c xs) (hB : B ≤ base) (hB' : B ≤ w.heap.size) : SlT T w base size A n c xs := by
 refine ⟨h.more hB', fun hn ad e => ?_⟩
 obtain ⟨ad', e', hb, _⟩ := h.at_ hn
 rw [e] at e'
 injection e' with e'
 subst e'
 exact .inl (by omega)
theorem SlT.of_own {rb e : Nat} (h : w.ownsRow rb e size (.slice A n c) n xs) (he : e ∈ 5 :: T) : SlT T w base size A n c xs := by
 refine ⟨Sl.of_own h, fun hn ad e' => ?_⟩
 subst e'
 rcases h.2 with ⟨h1, _⟩ | ⟨g, cap, cur, h1, _, hg, _⟩
 ·injection h1 with h1; cases h1
 ·injection h1 with h1
  injection h1 with h1
  subst h1
  exact .inr ⟨cur, e, he, hg⟩
theorem SlT.all (h : SlT T w base size A n c xs) : SlT T' w w.heap.size size A n c xs := SlT.of_sl h.1 (Nat.le_refl _) (Nat.le_refl _)
end
def ByT (w : World) (base : Nat) (v : Value) (l : List UInt8) : Prop := ∃ A n c, v = .slice A n c ∧ SlT [] w base 1 A n c (u8s l)
section
variable {T : List TypeId} {base base' : Nat} {v : Value} {l : List UInt8} {w w' : World}
theorem Kept.bytes (h : Kept T base w w') (hb : base' ≤ base) : Kept [] base' w w' := h.sub (List.nil_subset _) hb
theorem ByT.kept (h : ByT w base v l) (k : Kept T base w w') : ByT w' base v l := by
 obtain ⟨A, n, c, e, h⟩ := h
 exact ⟨A, n, c, e, h.kept (k.bytes (Nat.le_refl _))⟩
theorem ByT.sub (h : ByT w base v l) (hb : base ≤ base') : ByT w base' v l := by
 obtain ⟨A, n, c, e, h⟩ := h
 exact ⟨A, n, c, e, h.sub (List.Subset.refl _) hb⟩
theorem ByT.all (h : ByT w base v l) : ByT w w.heap.size v l := by
 obtain ⟨A, n, c, e, h⟩ := h
 exact ⟨A, n, c, e, h.all⟩
theorem ByT.of_by {B n c : Nat} {A : Option Addr} (h : By w B A n c l) (hB : B ≤ base) (hB' : B ≤ w.heap.size) : ByT w base (.slice A n c) l := ⟨A, n, c, rfl, SlT.of_sl h hB hB'⟩
theorem ByT.of_own {rb n : Nat} (h : w.ownsRow rb 5 1 v n (u8s l)) : ByT w base v l := by
 obtain ⟨A, c, rfl, hs⟩ := own_shape h
 exact ⟨A, n, c, rfl, SlT.of_own h (by simp)⟩
theorem ByT.by_ (h : ByT w base v l) : ∃ A c, v = .slice A l.length c ∧ By w w.heap.size A l.length c l := by
 obtain ⟨A, n, c, rfl, hs, _⟩ := h
 have hl : l.length = n := By.len hs
 subst hl
 exact ⟨A, c, rfl, hs⟩
theorem ByT.nil (w : World) (base : Nat) : ByT w base (.slice none 0 0) [] := ⟨none, 0, 0, rfl, Sl.nil_ _ _ _, fun h => absurd h (by omega)⟩
end
structure El (α : Type) where
 ty : TypeId
 size : Nat
 pos : 0 < size
 d : α
 R : (Value → List UInt8 → Prop) → List Value → α → Prop
 len : ∀ {P cs x}, R P cs x → cs.length = size
 mono : ∀ {P Q : Value → List UInt8 → Prop} {cs x}, (∀ v l, P v l → Q v l) → R P cs x → R Q cs x
 one : ∀ {P : Value → List UInt8 → Prop} {cs x}, (∀ v l, P v l → v.oneCell' = true) → R P cs x → ∀ u ∈ cs, u.oneCell' = true
theorem ByT.one {w : World} {base : Nat} (v : Value) (l : List UInt8) (h : ByT w base v l) : v.oneCell' = true := by
 obtain ⟨A, n, c, rfl, _⟩ := h
 rfl
def eBlk : El (List UInt8) where
 ty := 22
 size := 1
 pos := by decide
 d := []
 R P cs x := ∃ v, cs = [v] ∧ P v x
 len := by rintro P cs x ⟨v, rfl, _⟩; rfl
 mono := by rintro P Q cs x h ⟨v, rfl, k⟩; exact ⟨v, rfl, h _ _ k⟩
 one := by
  rintro P cs x h ⟨v, rfl, k⟩ u hu
  obtain rfl : u = v := by simpa using hu
  exact h _ _ k
def eWr : El (Int × List UInt8) where
 ty := 104
 size := 2
 pos := by decide
 d := (0, [])
 R P cs x := ∃ v, cs = [.int .i64 x.1, v] ∧ P v x.2
 len := by rintro P cs x ⟨v, rfl, _⟩; rfl
 mono := by rintro P Q cs x h ⟨v, rfl, k⟩; exact ⟨v, rfl, h _ _ k⟩
 one := by
  rintro P cs x h ⟨v, rfl, k⟩ u hu
  simp only [List.mem_cons, List.not_mem_nil, or_false] at hu
  rcases hu with rfl | rfl
  ·rfl
  ·exact h _ _ k
def eRec : El Rec where
 ty := 54
 size := 4
 pos := by decide
 d := rZero
 R P cs x := ∃ v, cs = [.int .i64 x.kind, .int .i64 x.key, .int .i64 x.ver, v] ∧ P v x.data
 len := by rintro P cs x ⟨v, rfl, _⟩; rfl
 mono := by rintro P Q cs x h ⟨v, rfl, k⟩; exact ⟨v, rfl, h _ _ k⟩
 one := by
  rintro P cs x h ⟨v, rfl, k⟩ u hu
  simp only [List.mem_cons, List.not_mem_nil, or_false] at hu
  rcases hu with rfl | rfl | rfl | rfl
  ·rfl
  ·rfl
  ·rfl
  ·exact h _ _ k
def eEnt : El Ent where
 ty := 78
 size := 5
 pos := by decide
 d := ⟨rZero, 0⟩
 R P cs x := ∃ v, cs = [.int .i64 x.rcd.kind, .int .i64 x.rcd.key, .int .i64 x.rcd.ver, v, .int .i64 x.pair] ∧ P v x.rcd.data
 len := by rintro P cs x ⟨v, rfl, _⟩; rfl
 mono := by rintro P Q cs x h ⟨v, rfl, k⟩; exact ⟨v, rfl, h _ _ k⟩
 one := by
  rintro P cs x h ⟨v, rfl, k⟩ u hu
  simp only [List.mem_cons, List.not_mem_nil, or_false] at hu
  rcases hu with rfl | rfl | rfl | rfl | rfl
  ·rfl
  ·rfl
  ·rfl
  ·exact h _ _ k
  ·rfl
def eInt : El Int where
 ty := 3
 size := 1
 pos := by decide
 d := 0
 R _ cs x := cs = [.int .i64 x]
 len := by rintro P cs x rfl; rfl
 mono := by rintro P Q cs x _ k; exact k
 one := by
  rintro P cs x _ rfl u hu
  obtain rfl : u = .int .i64 x := by simpa using hu
  rfl
def eErr : El Int where
 ty := 35
 size := 1
 pos := by decide
 d := 0
 R _ cs x := cs = [.int .i64 x]
 len := by rintro P cs x rfl; rfl
 mono := by rintro P Q cs x _ k; exact k
 one := by
  rintro P cs x _ rfl u hu
  obtain rfl : u = .int .i64 x := by simpa using hu
  rfl
theorem flat_length {size : Nat} : ∀ (css : List (List Value)), (∀ cs ∈ css, cs.length = size) → css.flatten.length = css.length * size
 | [], _ => by simp
 | cs :: r, h => by
  have h1 := h cs (by simp)
  have h2 := flat_length r fun x hx => h x (by simp [hx])
  simp only [List.flatten_cons, List.length_append, List.length_cons, h1, h2, Nat.add_mul, Nat.one_mul]
  omega
theorem flat_at {size : Nat} : ∀ (css : List (List Value)), (∀ cs ∈ css, cs.length = size) → ∀ (i j : Nat), i < css.length → j < size → css.flatten[i * size + j]? = (css.getD i [])[j]?
 | [], _, i, j, hi, _ => by simp at hi
 | cs :: r, h, 0, j, _, hj => by
  have h1 := h cs (by simp)
  simp only [List.flatten_cons, Nat.zero_mul, Nat.zero_add, List.getD_cons_zero]
  rw [List.getElem?_append_left (by omega)]
 | cs :: r, h, i + 1, j, hi, hj => by
  have h1 := h cs (by simp)
  have h2 := flat_at r (fun x hx => h x (by simp [hx])) i j (by simpa using hi) hj
  have e : (i + 1) * size + j = cs.length + (i * size + j) := by rw [h1, Nat.add_mul]; omega
  simp only [List.flatten_cons, List.getD_cons_succ]
  rw [e, List.getElem?_append_right (by omega), Nat.add_sub_cancel_left, h2]
def Cs {α : Type} (E : El α) (P : Value → List UInt8 → Prop) (css : List (List Value)) (xs : List α) : Prop :=
 css.length = xs.length ∧ ∀ i, i < xs.length → E.R P (css.getD i []) (xs.getD i E.d)
section
variable {α : Type} {E : El α} {P Q : Value → List UInt8 → Prop} {css : List (List Value)} {xs : List α}
theorem Cs.mono (h : Cs E P css xs) (hPQ : ∀ v l, P v l → Q v l) : Cs E Q css xs := ⟨h.1, fun i hi => E.mono hPQ (h.2 i hi)⟩
theorem Cs.mem (h : Cs E P css xs) : ∀ cs ∈ css, ∃ x, E.R P cs x := by
 intro cs hcs
 obtain ⟨i, hi, rfl⟩ := List.getElem_of_mem hcs
 refine ⟨xs.getD i E.d, ?_⟩
 have := h.2 i (by have := h.1; omega)
 rw [List.getD_eq_getElem?_getD, List.getElem?_eq_getElem hi] at this
 exact this
theorem Cs.each (h : Cs E P css xs) : ∀ cs ∈ css, cs.length = E.size := fun cs hcs => by
 obtain ⟨x, hx⟩ := h.mem cs hcs
 exact E.len hx
theorem Cs.flat (h : Cs E P css xs) : css.flatten.length = xs.length * E.size := by rw [flat_length css h.each, h.1]
theorem Cs.nil : Cs E P [] [] := ⟨rfl, fun i hi => absurd hi (by simp)⟩
theorem Cs.one (h : Cs E P css xs) (hP : ∀ v l, P v l → v.oneCell' = true) : ∀ u ∈ css.flatten, u.oneCell' = true := by
 intro u hu
 obtain ⟨cs, hcs, hu⟩ := List.mem_flatten.1 hu
 obtain ⟨x, hx⟩ := h.mem cs hcs
 exact E.one hP hx u hu
theorem getD_app {β : Type} (d : β) (l m : List β) (i : Nat) : (l ++ m).getD i d = if i < l.length then l.getD i d else m.getD (i - l.length) d := by
 split
 ·rename_i h
  rw [List.getD_eq_getElem?_getD, List.getElem?_append_left h, ← List.getD_eq_getElem?_getD]
 ·rename_i h
  rw [List.getD_eq_getElem?_getD, List.getElem?_append_right (by omega), ← List.getD_eq_getElem?_getD]
theorem Cs.append {css' : List (List Value)} {ys : List α} (h : Cs E P css xs) (k : Cs E P css' ys) : Cs E P (css ++ css') (xs ++ ys) := by
 refine ⟨by simp [h.1, k.1], fun i hi => ?_⟩
 rw [getD_app, getD_app, h.1]
 by_cases hl : i < xs.length
 ·rw [if_pos hl, if_pos hl]; exact h.2 i hl
 ·rw [if_neg hl, if_neg hl]; exact k.2 _ (by rw [List.length_append] at hi; omega)
theorem Cs.single {cs : List Value} {x : α} (h : E.R P cs x) : Cs E P [cs] [x] := ⟨rfl, fun i hi => by
 obtain rfl : i = 0 := by simpa using hi
 exact h⟩
theorem getD_take {β : Type} (d : β) (l : List β) (k i : Nat) (h : i < k) : (l.take k).getD i d = l.getD i d := by
 rw [List.getD_eq_getElem?_getD, List.getElem?_take, if_pos h, ← List.getD_eq_getElem?_getD]
theorem getD_drop {β : Type} (d : β) (l : List β) (k i : Nat) : (l.drop k).getD i d = l.getD (k + i) d := by
 rw [List.getD_eq_getElem?_getD, List.getElem?_drop, ← List.getD_eq_getElem?_getD]
theorem Cs.take (h : Cs E P css xs) (k : Nat) : Cs E P (css.take k) (xs.take k) := by
 refine ⟨by simp [h.1], fun i hi => ?_⟩
 rw [List.length_take] at hi
 rw [getD_take _ _ _ _ (by omega), getD_take _ _ _ _ (by omega)]
 exact h.2 i (by omega)
theorem Cs.drop (h : Cs E P css xs) (k : Nat) : Cs E P (css.drop k) (xs.drop k) := by
 refine ⟨by simp [h.1], fun i hi => ?_⟩
 rw [List.length_drop] at hi
 rw [getD_drop, getD_drop]
 exact h.2 _ (by omega)
theorem flat_take {size : Nat} : ∀ (css : List (List Value)) (k : Nat), (∀ cs ∈ css, cs.length = size) → (css.take k).flatten = css.flatten.take (k * size)
 | [], k, _ => by simp
 | cs :: r, 0, _ => by simp
 | cs :: r, k + 1, h => by
  have h1 := h cs (by simp)
  have h2 := flat_take r k fun x hx => h x (by simp [hx])
  have e : (k + 1) * size = cs.length + k * size := by rw [h1, Nat.add_mul]; omega
  rw [List.take_succ_cons, List.flatten_cons, List.flatten_cons, h2, e, List.take_length_add_append]
theorem flat_drop {size : Nat} : ∀ (css : List (List Value)) (k : Nat), (∀ cs ∈ css, cs.length = size) → (css.drop k).flatten = css.flatten.drop (k * size)
 | [], k, _ => by simp
 | cs :: r, 0, _ => by simp
 | cs :: r, k + 1, h => by
  have h1 := h cs (by simp)
  have h2 := flat_drop r k fun x hx => h x (by simp [hx])
  have e : (k + 1) * size = cs.length + k * size := by rw [h1, Nat.add_mul]; omega
  rw [List.drop_succ_cons, List.flatten_cons, h2, e, List.drop_length_add_append]
end
def Row {α : Type} (E : El α) (T : List TypeId) (w : World) (base : Nat) (v : Value) (xs : List α) : Prop :=
 ∃ A c css, v = .slice A xs.length c ∧ Cs E (ByT w base) css xs ∧ SlT T w base E.size A xs.length c css.flatten
def OwnRow {α : Type} (E : El α) (w : World) (rb base : Nat) (v : Value) (xs : List α) : Prop :=
 ∃ css, Cs E (ByT w base) css xs ∧ w.ownsRow rb E.ty E.size v xs.length css.flatten
section
variable {α : Type} {E : El α} {T T' : List TypeId} {w w' : World} {base base' rb rb' : Nat} {v : Value} {xs : List α}
theorem Row.kept (h : Row E T w base v xs) (k : Kept T base w w') : Row E T w' base v xs := by
 obtain ⟨A, c, css, rfl, hc, hs⟩ := h
 exact ⟨A, c, css, rfl, hc.mono fun _ _ h => h.kept k, hs.kept k⟩
theorem Row.ext (h : Row E T w base v xs) (k : Ext w w') : Row E T w' base v xs := h.kept (.ext k)
theorem Row.sub (h : Row E T w base v xs) (hT : T ⊆ T') (hb : base ≤ base') : Row E T' w base' v xs := by
 obtain ⟨A, c, css, rfl, hc, hs⟩ := h
 exact ⟨A, c, css, rfl, hc.mono fun _ _ h => h.sub hb, hs.sub hT hb⟩
theorem Row.all (h : Row E T w base v xs) : Row E T' w w.heap.size v xs := by
 obtain ⟨A, c, css, rfl, hc, hs⟩ := h
 exact ⟨A, c, css, rfl, hc.mono fun _ _ h => h.all, hs.all⟩
theorem Row.shape (h : Row E T w base v xs) : ∃ A c, v = .slice A xs.length c ∧ xs.length ≤ c ∧ c ≤ maxLen := by
 obtain ⟨A, c, css, rfl, hc, hs⟩ := h
 exact ⟨A, c, rfl, hs.1.cap, hs.1.max⟩
theorem Row.nil (E : El α) (T : List TypeId) (w : World) (base : Nat) : Row E T w base (.slice none 0 0) [] :=
 ⟨none, 0, [], rfl, Cs.nil, Sl.nil_ _ _ _, fun h => absurd h (by simp)⟩
theorem OwnRow.nil (E : El α) (w : World) (rb base : Nat) : OwnRow E w rb base (.slice none 0 0) [] := ⟨[], Cs.nil, own_nil _ _ _ _⟩
theorem Row.at_ {A : Option Addr} {n c : Nat} (h : Row E T w base (.slice A n c) xs) {i : Nat} (hi : i < n) :
  ∃ b o cs, A = some ⟨b, o, none⟩ ∧ b < w.heap.size ∧ Fp T w base b ∧ E.R (ByT w base) cs (xs.getD i E.d) ∧ ∀ j u, cs[j]? = some u → w.cell? ⟨b, o + (i * E.size + j), none⟩ = some u := by
 obtain ⟨A', c', css, e, hc, hs⟩ := h
 injection e with e1 e2 e3
 subst e1 e2 e3
 obtain ⟨b, o, hA, hb, hcell⟩ := Sl.form hs.1 (by omega) E.pos
 have hR := hc.2 i hi
 refine ⟨b, o, _, hA, hb, hs.2 (by omega) _ hA, hR, fun j u hu => hcell _ u ?_⟩
 have hj : j < E.size := by
  rw [← E.len hR]
  rcases Nat.lt_or_ge j (css.getD i []).length with h | h
  ·exact h
  ·rw [List.getElem?_eq_none h] at hu; cases hu
 rw [flat_at css hc.each i j (by have := hc.1; omega) hj]
 exact hu
theorem own_kept {e size n : Nat} {xs : List Value} (h : w.ownsRow rb e size v n xs) (he : e ∈ 5 :: T) (k : Kept T base w w') : w'.ownsRow rb e size v n xs := by
 refine ⟨h.1, ?_⟩
 rcases h.2 with hn | ⟨g, cap, cur, rfl, h1, hgg, rest⟩
 ·exact .inl hn
 ·exact .inr ⟨g, cap, cur, rfl, h1, (k.block g (Array.getElem?_eq_some_iff.1 hgg).1 (.inr ⟨cur, e, he, hgg⟩)).trans hgg, rest⟩
theorem OwnRow.kept (h : OwnRow E w rb base v xs) (he : E.ty ∈ 5 :: T) (hb : base ≤ base') (k : Kept T base' w w') : OwnRow E w' rb base v xs := by
 obtain ⟨css, hc, ho⟩ := h
 exact ⟨css, hc.mono fun _ _ h => h.kept (k.bytes hb), own_kept ho he k⟩
theorem OwnRow.ext (h : OwnRow E w rb base v xs) (k : Ext w w') : OwnRow E w' rb base v xs := by
 obtain ⟨css, hc, ho⟩ := h
 exact ⟨css, hc.mono fun _ _ h => h.kept (T := []) (.ext k), own_ext ho k⟩
theorem OwnRow.row (h : OwnRow E w rb base v xs) (he : E.ty ∈ 5 :: T) (hb : base ≤ base') : Row E T w base' v xs := by
 obtain ⟨css, hc, ho⟩ := h
 obtain ⟨A, c, rfl, hs⟩ := own_shape ho
 exact ⟨A, c, css, rfl, hc.mono fun _ _ h => h.sub hb, SlT.of_own ho he⟩
theorem OwnRow.more (h : OwnRow E w rb base v xs) (hb : rb' ≤ rb) (hb' : base ≤ base') : OwnRow E w rb' base' v xs := by
 obtain ⟨css, hc, ho⟩ := h
 exact ⟨css, hc.mono fun _ _ h => h.sub hb', own_more ho hb⟩
theorem OwnRow.shape (h : OwnRow E w rb base v xs) : ∃ A c, v = .slice A xs.length c := by
 obtain ⟨css, hc, ho⟩ := h
 obtain ⟨A, c, rfl, hs⟩ := own_shape ho
 exact ⟨A, c, rfl⟩
theorem OwnRow.app {css css' : List (List Value)} {v' : Value} {ys : List α} (hc : Cs E (ByT w base) css xs) (ho : w.ownsRow rb E.ty E.size v xs.length css.flatten) (hc' : Cs E (ByT w base) css' ys)
  (ho' : w'.ownsRow rb E.ty E.size v' (xs.length + ys.length) (css.flatten ++ css'.flatten)) (hg : w.grownBy w' v.ownBlock) (he : E.ty ∉ [5]) (hb : base ≤ rb) : OwnRow E w' rb base v' (xs ++ ys) := by
 have k : Kept [] base w w' := Kept.app ho hg he hb
 refine ⟨css ++ css', (hc.append hc').mono fun _ _ h => h.kept k, ?_⟩
 rw [List.flatten_append, List.length_append]
 exact ho'
theorem OwnRow.setOld (h : OwnRow E w rb base v xs) {g : Nat} {t : TypeId} {cs : Array Value} (hb : Box w g t cs) (hg : g < rb) (ht : t ∉ [5]) (hg' : base ≤ g) (j : Nat) (u : Value) : OwnRow E (w.setCell ⟨g, j, none⟩ u) rb base v xs := by
 obtain ⟨css, hc, ho⟩ := h
 exact ⟨css, hc.mono fun _ _ h => h.kept (T := []) (.set hb ht hg' j u), own_set ho hg u⟩
end
end Go.Proofs.YtdmnmfnmaccmoaaGreatDoor
/- Disks: words for rows of blocks and rows of late writes; no walk here. -/
namespace Go.Proofs.YtdmnmfnmaccmoaaGreatDoor
open Go Go.RowKit
def ByV (w : World) (B : Nat) (v : Value) (l : List UInt8) : Prop := ∃ A n c, v = .slice A n c ∧ By w B A n c l
def Blks (w : World) (B : Nat) (A : Option Addr) (n c : Nat) (bs : List (List UInt8)) : Prop :=
 ∃ vs : List Value, vs.length = bs.length ∧ Sl w B 1 A n c vs ∧ ∀ i, i < bs.length → ByV w B (vs.getD i (.bool false)) (bs.getD i [])
def lcells : List (Int × Value) → List Value
 | [] => []
 | p :: r => .int .i64 p.1 :: p.2 :: lcells r
theorem lcells_length : ∀ vs, (lcells vs).length = vs.length * 2
 | [] => rfl
 | p :: r => by simp only [lcells, List.length_cons, lcells_length r]; omega
theorem lcells_fst : ∀ (vs : List (Int × Value)) (i : Nat) (p : Int × Value), vs[i]? = some p → (lcells vs)[i * 2]? = some (.int .i64 p.1)
 | [], i, p, h => by simp at h
 | q :: r, 0, p, h => by simp at h; subst h; rfl
 | q :: r, i + 1, p, h => by
  have := lcells_fst r i p (by simpa using h)
  rw [show (i + 1) * 2 = i * 2 + 1 + 1 by omega]
  simpa [lcells] using this
theorem lcells_snd : ∀ (vs : List (Int × Value)) (i : Nat) (p : Int × Value), vs[i]? = some p → (lcells vs)[i * 2 + 1]? = some p.2
 | [], i, p, h => by simp at h
 | q :: r, 0, p, h => by simp at h; subst h; rfl
 | q :: r, i + 1, p, h => by
  have := lcells_snd r i p (by simpa using h)
  rw [show (i + 1) * 2 + 1 = i * 2 + 1 + 1 + 1 by omega]
  simpa [lcells] using this
theorem lcells_append : ∀ vs us, lcells (vs ++ us) = lcells vs ++ lcells us
 | [], us => rfl
 | p :: r, us => by simp [lcells, lcells_append r us]
def Lats (w : World) (B : Nat) (A : Option Addr) (n c : Nat) (ls : List (Int × List UInt8)) : Prop :=
 ∃ vs : List (Int × Value), vs.length = ls.length ∧ Sl w B 2 A n c (lcells vs) ∧ ∀ i, i < ls.length → (vs.getD i (0, .bool false)).1 = (ls.getD i (0, [])).1 ∧ ByV w B (vs.getD i (0, .bool false)).2 (ls.getD i (0, [])).2
section
variable {w w' : World} {B B' n c : Nat} {A : Option Addr}
theorem ByV.keep {v : Value} {l : List UInt8} (h : ByV w B v l) (hB : B ≤ B') (hb : Below B w w') : ByV w' B' v l := by
 obtain ⟨A, n, c, rfl, h⟩ := h
 exact ⟨A, n, c, rfl, (Sl.below h hb).more hB⟩
theorem Blks.len {bs : List (List UInt8)} (h : Blks w B A n c bs) : bs.length = n := by
 obtain ⟨vs, e, hs, _⟩ := h
 have := hs.len
 omega
theorem Blks.cap {bs : List (List UInt8)} (h : Blks w B A n c bs) : n ≤ c := by obtain ⟨vs, _, hs, _⟩ := h; exact hs.cap
theorem Blks.max {bs : List (List UInt8)} (h : Blks w B A n c bs) : c ≤ maxLen := by obtain ⟨vs, _, hs, _⟩ := h; exact hs.max
theorem Blks.keep {bs : List (List UInt8)} (h : Blks w B A n c bs) (hB : B ≤ B') (hb : Below B w w') : Blks w' B' A n c bs := by
 obtain ⟨vs, e, hs, hv⟩ := h
 exact ⟨vs, e, (Sl.below hs hb).more hB, fun i hi => (hv i hi).keep hB hb⟩
theorem Blks.below {bs : List (List UInt8)} (h : Blks w B A n c bs) (hb : Below B w w') : Blks w' B A n c bs := h.keep (Nat.le_refl _) hb
theorem Blks.at_ {bs : List (List UInt8)} (h : Blks w B A n c bs) {i : Nat} (hi : i < n) :
  ∃ b o A' n' c', A = some ⟨b, o, none⟩ ∧ b < B ∧ w.cell? ⟨b, o + i, none⟩ = some (.slice A' n' c') ∧ By w B A' n' c' (bs.getD i []) := by
 have hl := h.len
 obtain ⟨vs, e, hs, hv⟩ := h
 obtain ⟨b, o, hA, hb, hc⟩ := Sl.form hs (by omega) (by omega)
 obtain ⟨A', n', c', e', hby⟩ := hv i (by omega)
 refine ⟨b, o, A', n', c', hA, hb, hc i _ ?_, hby⟩
 rw [← e', List.getD_eq_getElem?_getD, List.getElem?_eq_getElem (by omega)]
 rfl
theorem Lats.len {ls : List (Int × List UInt8)} (h : Lats w B A n c ls) : ls.length = n := by
 obtain ⟨vs, e, hs, _⟩ := h
 have := hs.len
 rw [lcells_length] at this
 omega
theorem Lats.cap {ls : List (Int × List UInt8)} (h : Lats w B A n c ls) : n ≤ c := by obtain ⟨vs, _, hs, _⟩ := h; exact hs.cap
theorem Lats.max {ls : List (Int × List UInt8)} (h : Lats w B A n c ls) : c ≤ maxLen := by obtain ⟨vs, _, hs, _⟩ := h; exact hs.max
theorem Lats.keep {ls : List (Int × List UInt8)} (h : Lats w B A n c ls) (hB : B ≤ B') (hb : Below B w w') : Lats w' B' A n c ls := by
 obtain ⟨vs, e, hs, hv⟩ := h
 exact ⟨vs, e, (Sl.below hs hb).more hB, fun i hi => ⟨(hv i hi).1, (hv i hi).2.keep hB hb⟩⟩
theorem Lats.below {ls : List (Int × List UInt8)} (h : Lats w B A n c ls) (hb : Below B w w') : Lats w' B A n c ls := h.keep (Nat.le_refl _) hb
theorem Lats.at_ {ls : List (Int × List UInt8)} (h : Lats w B A n c ls) {i : Nat} (hi : i < n) :
  ∃ b o k A' n' c', A = some ⟨b, o, none⟩ ∧ b < B ∧ w.cell? ⟨b, o + i * 2, none⟩ = some (.int .i64 k) ∧ w.cell? ⟨b, o + (i * 2 + 1), none⟩ = some (.slice A' n' c') ∧ Hid (k = (ls.getD i (0, [])).1) ∧ By w B A' n' c' (ls.getD i (0, [])).2 := by
 have hl := h.len
 obtain ⟨vs, e, hs, hv⟩ := h
 obtain ⟨b, o, hA, hb, hc⟩ := Sl.form hs (by omega) (by omega)
 obtain ⟨hk, A', n', c', e', hby⟩ := hv i (by omega)
 have hvi : vs[i]? = some (vs.getD i (0, .bool false)) := by
  rw [List.getD_eq_getElem?_getD, List.getElem?_eq_getElem (by omega)]
  rfl
 refine ⟨b, o, _, A', n', c', hA, hb, hc _ _ (lcells_fst vs i _ hvi), ?_, hk, hby⟩
 rw [← e']
 exact hc _ _ (lcells_snd vs i _ hvi)
end
end Go.Proofs.YtdmnmfnmaccmoaaGreatDoor
/- A region that draws its order and holds calls that make memory: one walk (or one for each order of its calls and allocs), the reads as early as may be. 
  An operation that only reads (true in the plan) is taken as soon as it may come up: it yields its value in every world that is as the world at hand was, but for new blocks; every other one leaves such a world (the last one may write, if all others come ahead of it).
  After the texts of Derived/OrdersHeld.lean and Derived/StillTail.lean. No program here. -/
namespace Go.Proofs.YtdmnmfnmaccmoaaGreatDoor
open Go Go.RowKit
theorem pA {a : Act} {d : Nat} {v : Value} : a.put (some d) v = { a with tmps := a.tmps.setIfInBounds d v } := rfl
theorem pB {l : List Value} {i : Nat} {v : Value} : l.toArray.setIfInBounds i v = (l.set i v).toArray := List.setIfInBounds_toArray _ _ _
theorem pC {x y : Value} {l : List Value} : (x :: l).set 0 y = y :: l := rfl
theorem pD {x y : Value} {l : List Value} {i : Nat} : (x :: l).set (i + 1) y = x :: l.set i y := rfl
section
variable {P : Program} {ops : Array Oper} {Q : Exit → Act → World → Prop} {md : Region.Mode} {t : Bool} {X : World → World → Prop}
def wpAnyX (P : Program) (md : Region.Mode) (ops : Array Oper) (Q : Exit → Act → World → Prop) (X : World → World → Prop) (t : Bool) : Nat → Array Bool → Act → World → Prop
 | 0, listed, a, w => Region.ready md ops listed = [] ∧ Q .normal a w
 | fuel + 1, listed, a, w =>
  (Region.ready md ops listed = [] → Q .normal a w) ∧
  ∀ i ∈ Region.ready md ops listed, wpOp P ops Q i (fun a' w' => (fuel = 0 ∧ t = true ∨ X w w') ∧ wpAnyX P md ops Q X t fuel (listed.setIfInBounds i true) a' w') a w
theorem wpAny_of_X : ∀ (fuel : Nat) (listed : Array Bool) (a : Act) (w : World), wpAnyX P md ops Q X t fuel listed a w → wpAny P md ops Q fuel listed a w
 | 0, _, _, _, h => h
 | fuel + 1, _, _, _, h => ⟨h.1, fun i hi => wpOp_mono (fun a' w' h' => wpAny_of_X fuel _ a' w' h'.2) (h.2 i hi)⟩
def waited (md : Region.Mode) (ops : Array Oper) (i : Nat) : Bool := (List.range ops.size).any fun k => Region.waitsFor md ops k i
structure Down (md : Region.Mode) (ops : Array Oper) (listed : Array Bool) : Prop where
 size : listed.size = ops.size
 closed : ∀ j oj, ops[j]? = some oj → listed.getD j false = true → ∀ e ∈ oj.after, Region.binds md e = true → listed.getD e.on false = true
theorem Down.set {i : Nat} {listed : Array Bool} (inv : Down md ops listed) (hi : i ∈ Region.ready md ops listed) : Down md ops (listed.setIfInBounds i true) := by
 obtain ⟨_, oi, hoi, hall⟩ := mem_ready.1 hi
 refine ⟨by simp [inv.size], fun j oj hj hl e he hb => ?_⟩
 by_cases hij : i = j
 ·subst hij
  have : oj = oi := Option.some.inj (hj.symm.trans hoi)
  subst this
  exact getD_set_true (hall e he hb)
 ·rw [getD_set_ne false hij] at hl
  exact getD_set_true (inv.closed j oj hj hl e he hb)
def openN (listed : Array Bool) : Nat := (listed.toList.filter fun b => !b).length
theorem openN_set : ∀ (l : List Bool) (i : Nat), l[i]? = some false → ((l.set i true).filter fun b => !b).length + 1 = (l.filter fun b => !b).length
 | [], i, h => by simp at h
 | b :: l, 0, h => by
  simp at h
  subst h
  simp
 | b :: l, i + 1, h => by
  have := openN_set l i (by simpa using h)
  cases b
  ·simp only [List.set_cons_succ, List.filter_cons, Bool.not_false, if_true, List.length_cons]; omega
  ·simp only [List.set_cons_succ, List.filter_cons, Bool.not_true, Bool.false_eq_true, if_false]; exact this
theorem getD_false {listed : Array Bool} {i : Nat} (h : listed.getD i true = false) : listed.toList[i]? = some false := by
 rcases Nat.lt_or_ge i listed.size with h' | h'
 ·simp [h'] at h ⊢; exact h
 ·simp [Array.getElem?_eq_none h'] at h
theorem openN_listed {listed : Array Bool} {i : Nat} (h : listed.getD i true = false) : openN (listed.setIfInBounds i true) + 1 = openN listed := by
 unfold openN
 rw [Array.toList_setIfInBounds]
 exact openN_set _ _ (getD_false h)
theorem openN_zero {listed : Array Bool} (h : openN listed = 0) (k : Nat) : listed.getD k true = true := by
 cases hk : listed.getD k true with
 | true => rfl
 | false =>
  have := openN_listed hk
  omega
def YieldsX (P : Program) (ops : Array Oper) (X : World → World → Prop) (w : World) (o : Oper) (v : Value) (a : Act) : Prop := YieldsIf P ops (fun w' => X w w') o v a
theorem YieldsX.ext (htr : ∀ a b c, X a b → X b c → X a c) {w w' : World} {o : Oper} {v : Value} {a : Act} (h : YieldsX P ops X w o v a) (hx : X w w') : YieldsX P ops X w' o v a := by
 rcases h with ⟨h1, h2⟩ | h
 ·exact .inl ⟨h1, fun w'' hx' => h2 w'' (htr _ _ _ hx hx')⟩
 ·exact .inr h
theorem wpAnyX_first (hrf : ∀ w, X w w) (htr : ∀ a b c, X a b → X b c → X a c) {i : Nat} {oi : Oper} {v : Value} (hi : ops[i]? = some oi) (hsel : ∀ (j : Nat) (o : Oper) cs b, ops[j]? = some o → o.op ≠ .select cs b)
  (hQ : ∀ c a w, Q (.panic c) (a.put oi.dst v) w → Q (.panic c) a w) (hwait : t = true → waited md ops i = true) :
  ∀ (fuel : Nat) (listed : Array Bool) (a : Act) (w : World), Down md ops listed → openN listed = fuel + 1 →
   (∀ j oj, ops[j]? = some oj → j ≠ i → listed.getD j true = false → (∀ e ∈ oj.after, Region.binds md e = true → e.on ≠ i) → oi.apart ops oj = true) →
   i ∈ Region.ready md ops listed → YieldsX P ops X w oi v a →
   wpAnyX P md ops Q X t fuel (listed.setIfInBounds i true) (a.put oi.dst v) w → wpAnyX P md ops Q X t (fuel + 1) listed a w := by
 intro fuel
 induction fuel with
 | zero =>
  intro listed a w _ _ _ hr hy H
  refine ⟨fun h => (by rw [h] at hr; cases hr), fun j hj => ?_⟩
  by_cases hji : j = i
  ·subst hji; exact hy.wpOp hi (hrf _) ⟨.inr (hrf _), H⟩
  ·have := ready_mono hj hji
   rw [H.1] at this
   cases this
 | succ fuel ih =>
  intro listed a w inv hop hfree hr hy H
  refine ⟨fun h => (by rw [h] at hr; cases hr), fun j hj => ?_⟩
  by_cases hji : j = i
  ·subst hji; exact hy.wpOp hi (hrf _) ⟨.inr (hrf _), H⟩
  ·have h1 := H.2 j (ready_mono hj hji)
   obtain ⟨hjun, oj, hoj, hall⟩ := mem_ready.1 hj
   obtain ⟨hiun, oi', hoi', halli⟩ := mem_ready.1 hr
   have hnot : ∀ e ∈ oj.after, Region.binds md e = true → e.on ≠ i := fun e he hb heq => by
    have h1 := hall e he hb
    rw [heq, getD_both hiun] at h1
    cases h1
   -- the last one, and i is open still: somebody waits for i
   have hno : ¬ (fuel = 0 ∧ t = true) := by
    rintro ⟨h0, ht⟩
    subst h0
    have hw := hwait ht
    unfold waited at hw
    obtain ⟨k, hk, hkw⟩ := List.any_eq_true.1 hw
    obtain ⟨ok, hok, e, he, hb, hon⟩ := Region.waitsFor_spec hkw
    have o1 := openN_listed hiun
    have hj1 : (listed.setIfInBounds i true).getD j true = false := by rw [getD_set_ne true (Ne.symm hji)]; exact hjun
    have o2 := openN_listed hj1
    have h0 : openN ((listed.setIfInBounds i true).setIfInBounds j true) = 0 := by omega
    have hkt := openN_zero h0 k
    by_cases hki : k = i
    ·subst hki
     have : ok = oi' := Option.some.inj (hok.symm.trans hoi')
     subst this
     have := halli e he hb
     rw [hon, getD_both hiun] at this
     cases this
    ·by_cases hkj : k = j
     ·subst hkj
      have : ok = oj := Option.some.inj (hok.symm.trans hoj)
      subst this
      exact hnot e he hb hon
     ·rw [getD_set_ne true (Ne.symm hkj), getD_set_ne true (Ne.symm hki)] at hkt
      have hks : k < listed.size := by rw [inv.size]; exact List.mem_range.1 hk
      have hkl : listed.getD k false = true := by
       simp [hks] at hkt ⊢; exact hkt
      have := inv.closed k ok hok hkl e he hb
      rw [hon, getD_both hiun] at this
      cases this
   have h2 := wpOp_putIf hoj (hfree j oj hoj hji hjun hnot) (fun cs b => hsel i oi cs b hi) (fun cs b => hsel j oj cs b hoj) hQ hy h1
   have hfree' : ∀ k ok, ops[k]? = some ok → k ≠ i → (listed.setIfInBounds j true).getD k true = false →
     (∀ e ∈ ok.after, Region.binds md e = true → e.on ≠ i) → oi.apart ops ok = true := fun k ok hk hki hun hno => by
    refine hfree k ok hk hki ?_ hno
    by_cases hjk : j = k
    ·subst hjk; exact hjun
    ·rw [getD_set_ne true hjk] at hun; exact hun
   refine wpOp_mono (fun a' w' h3 => ?_) h2
   have hx : X w w' := h3.2.1.resolve_left hno
   refine ⟨.inr hx, ih (listed.setIfInBounds j true) a' w' (inv.set hj) (by have := openN_listed hjun; omega) hfree' (ready_mono hr (Ne.symm hji)) (YieldsX.ext htr (w := w) h3.1 hx) ?_⟩
   rw [Array.setIfInBounds_comm _ _ hji]
   exact h3.2.2
def pickF (md : Region.Mode) (ops : Array Oper) (t : Bool) (Fs : List Nat) (listed : Array Bool) : Option Nat :=
 (Region.ready md ops listed).find? fun i => Fs.contains i && Region.free md ops listed i && (!t || waited md ops i)
def wpTree (P : Program) (md : Region.Mode) (ops : Array Oper) (Q : Exit → Act → World → Prop) (X : World → World → Prop) (t : Bool) (Fs : List Nat) : Nat → Array Bool → Act → World → Prop
 | 0, listed, a, w => Region.ready md ops listed = [] ∧ Q .normal a w
 | f + 1, listed, a, w =>
  match pickF md ops t Fs listed with
  | some i => ∃ o, ops[i]? = some o ∧ ∃ v, YieldsX P ops X w o v a ∧ wpTree P md ops Q X t Fs f (listed.setIfInBounds i true) (a.put o.dst v) w
  | none => (Region.ready md ops listed = [] → Q .normal a w) ∧
   ∀ i ∈ Region.ready md ops listed, wpOp P ops Q i (fun a' w' => (f = 0 ∧ t = true ∨ X w w') ∧ wpTree P md ops Q X t Fs f (listed.setIfInBounds i true) a' w') a w
theorem wpAnyX_of_tree (hrf : ∀ w, X w w) (htr : ∀ a b c, X a b → X b c → X a c) {Fs : List Nat} (hs : Region.noSelect ops = true) (hQ : ∀ c a a' w, Q (.panic c) a w → Q (.panic c) a' w) : ∀ (f : Nat) (listed : Array Bool) (a : Act) (w : World),
  Down md ops listed → openN listed = f → wpTree P md ops Q X t Fs f listed a w → wpAnyX P md ops Q X t f listed a w := by
 intro f
 induction f with
 | zero => intro listed a w _ _ h; exact h
 | succ f ih =>
  intro listed a w inv hop h
  unfold wpTree at h
  split at h
  ·rename_i i hp
   obtain ⟨o, ho, v, hy, h⟩ := h
   have h1 := List.mem_of_find?_eq_some hp
   have h2 := List.find?_some hp
   simp only [Bool.and_eq_true, Bool.or_eq_true] at h2
   refine wpAnyX_first hrf htr ho (Region.noSelect_spec hs) (fun c a' w' => hQ c _ _ w') (fun ht => ?_) f listed a w inv hop (Region.free_spec ho h2.1.2) h1 hy
    (ih _ _ _ (inv.set h1) (by have := openN_listed (mem_ready.1 h1).1; omega) h)
   subst ht
   simpa using h2.2
  ·refine ⟨h.1, fun i hi => ?_⟩
   have hop' : openN (listed.setIfInBounds i true) = f := by have := openN_listed (mem_ready.1 hi).1; omega
   exact wpOp_mono (fun a' w' hh => ⟨hh.1, ih _ _ _ (inv.set hi) hop' hh.2⟩) (h.2 i hi)
theorem openN_replicate : ∀ n, openN (Array.replicate n false) = n := fun n => by
 unfold openN
 simp
theorem wp_region_mix (X : World → World → Prop) (hrf : ∀ w, X w w) (htr : ∀ a b c, X a b → X b c → X a c) {id : Nat} {a : Act} {w : World} {l : List Oper} (n : Nat) (Fs : List Nat) (t : Bool) (hn : l.length = n) (hm : P.follows .mixedOrders = true) (hs : Region.noSelect l.toArray = true)
  (h : wpTree P .any l.toArray (NoPanic Q) X t Fs n (Array.replicate n false) a w.drew) : (Code.region id l.toArray true).wp P Q a w := by
 subst hn
 refine wp_region_noPanic (wp_region_any hm ?_)
 have h0 : l.toArray.size = l.length := by simp
 rw [h0]
 exact wpAny_of_X _ _ _ _ (wpAnyX_of_tree hrf htr hs (fun c a a' w h => h) _ _ _ _ ⟨by simp, fun j oj _ hl => (by rw [getD_replicate_false] at hl; cases hl)⟩ (openN_replicate _) h)
theorem wp_region_ext {id : Nat} {a : Act} {w : World} {l : List Oper} (n : Nat) (Fs : List Nat) (t : Bool) (hn : l.length = n) (hm : P.follows .mixedOrders = true) (hs : Region.noSelect l.toArray = true)
  (h : wpTree P .any l.toArray (NoPanic Q) (fun w w' => Below w.heap.size w w') t Fs n (Array.replicate n false) a w.drew) : (Code.region id l.toArray true).wp P Q a w :=
 wp_region_mix _ (fun _ => Below.refl _ _) (fun _ _ _ h k => ext_trans h k) n Fs t hn hm hs h
theorem wp_region_below (B : Nat) {id : Nat} {a : Act} {w : World} {l : List Oper} (n : Nat) (Fs : List Nat) (t : Bool) (hn : l.length = n) (hm : P.follows .mixedOrders = true) (hs : Region.noSelect l.toArray = true)
  (h : wpTree P .any l.toArray (NoPanic Q) (fun w w' => Below B w w') t Fs n (Array.replicate n false) a w.drew) : (Code.region id l.toArray true).wp P Q a w :=
 wp_region_mix _ (fun _ => Below.refl _ _) (fun _ _ _ h k => h.trans k) n Fs t hn hm hs h
section
variable {l : List Oper} {Fs : List Nat} {f : Nat} {listed : Array Bool} {a : Act} {w : World}
theorem mixF (i : Nat) {o : Oper} {v : Value} (hp : pickF md l.toArray t Fs listed = some i) (ho : l[i]? = some o)
  (hw : Region.wanted o (yielded l.toArray a.tmps) = true) (hy : ∀ w', X w w' → (execOp a.eval o).run P w' = .ok (.value v) w')
  (h : wpTree P md l.toArray Q X t Fs f (listed.setIfInBounds i true) (a.put o.dst v) w) : wpTree P md l.toArray Q X t Fs (f + 1) listed a w := by
 unfold wpTree
 rw [hp]
 exact ⟨o, by simpa using ho, v, .inl ⟨hw, hy⟩, h⟩
theorem mix_op {i : Nat} {o : Oper} {K : Act → World → Prop} (ho : l[i]? = some o) (hw : Region.wanted o (yielded l.toArray a.tmps) = true) (h : o.wp P a w K Q) : wpOp P l.toArray Q i K a w := by
 have ho' : l.toArray[i]? = some o := by simpa using ho
 unfold wpOp
 simp only [ho']
 rw [if_pos hw]
 exact .inl h
theorem mixS (i : Nat) {o : Oper} (hp : pickF md l.toArray t Fs listed = none) (hr : Region.ready md l.toArray listed = [i]) (ho : l[i]? = some o)
  (hw : Region.wanted o (yielded l.toArray a.tmps) = true)
  (h : ∀ K : Act → World → Prop, Shut (∀ a' w', X w w' → wpTree P md l.toArray Q X t Fs f (listed.setIfInBounds i true) a' w' → K a' w') → o.wp P a w K Q) : wpTree P md l.toArray Q X t Fs (f + 1) listed a w := by
 unfold wpTree
 rw [hp]
 refine ⟨fun h0 => (by rw [hr] at h0; cases h0), fun j hj => ?_⟩
 rw [hr] at hj
 obtain rfl : j = i := by simpa using hj
 exact mix_op ho hw (h _ fun a' w' h1 h2 => ⟨.inr h1, h2⟩)
theorem mixS2 (i j : Nat) {o o' : Oper} (hp : pickF md l.toArray t Fs listed = none) (hr : Region.ready md l.toArray listed = [i, j]) (ho : l[i]? = some o) (ho' : l[j]? = some o')
  (hw : Region.wanted o (yielded l.toArray a.tmps) = true) (hw' : Region.wanted o' (yielded l.toArray a.tmps) = true)
  (h : ∀ K : Act → World → Prop, Shut (∀ a' w', X w w' → wpTree P md l.toArray Q X t Fs f (listed.setIfInBounds i true) a' w' → K a' w') → o.wp P a w K Q)
  (h' : ∀ K : Act → World → Prop, Shut (∀ a' w', X w w' → wpTree P md l.toArray Q X t Fs f (listed.setIfInBounds j true) a' w' → K a' w') → o'.wp P a w K Q) : wpTree P md l.toArray Q X t Fs (f + 1) listed a w := by
 unfold wpTree
 rw [hp]
 refine ⟨fun h0 => (by rw [hr] at h0; cases h0), fun k hk => ?_⟩
 rw [hr] at hk
 simp only [List.mem_cons, List.not_mem_nil, or_false] at hk
 rcases hk with rfl | rfl
 ·exact mix_op ho hw (h _ fun a' w' h1 h2 => ⟨.inr h1, h2⟩)
 ·exact mix_op ho' hw' (h' _ fun a' w' h1 h2 => ⟨.inr h1, h2⟩)
theorem mixLast (i : Nat) {o : Oper} (hp : pickF md l.toArray true Fs listed = none) (hr : Region.ready md l.toArray listed = [i]) (he : Region.ready md l.toArray (listed.setIfInBounds i true) = []) (ho : l[i]? = some o)
  (hw : Region.wanted o (yielded l.toArray a.tmps) = true)
  (h : ∀ K : Act → World → Prop, (∀ a' w', Q .normal a' w' → K a' w') → o.wp P a w K Q) : wpTree P md l.toArray Q X true Fs 1 listed a w := by
 unfold wpTree
 rw [hp]
 refine ⟨fun h0 => (by rw [hr] at h0; cases h0), fun j hj => ?_⟩
 rw [hr] at hj
 obtain rfl : j = i := by simpa using hj
 exact mix_op ho hw (h _ fun a' w' h1 => ⟨.inl ⟨rfl, rfl⟩, he, h1⟩)
theorem mixEnd (hr : Region.ready md l.toArray listed = []) (h : Q .normal a w) : wpTree P md l.toArray (NoPanic Q) X t Fs 0 listed a w := ⟨hr, h⟩
end
end
end Go.Proofs.YtdmnmfnmaccmoaaGreatDoor
/- Walks: the document's SameBlocks, SameDisk, RightDisk. -/
namespace Go.Proofs.YtdmnmfnmaccmoaaGreatDoor
open Go Go.RowKit
end Go.Proofs.YtdmnmfnmaccmoaaGreatDoor
/- Walks: the document's SameDisk. -/
namespace Go.Proofs.YtdmnmfnmaccmoaaGreatDoor
open Go Go.RowKit
theorem Box.cells2 {w : World} {g : Nat} {t : TypeId} {a b : Value} (h : Box w g t #[a, b]) : w.cell? ⟨g, 0, none⟩ = some a ∧ w.cell? ⟨g, 1, none⟩ = some b := ⟨h.cell 0 rfl, h.cell 1 rfl⟩
structure DskAt (w : World) (B : Nat) (A : Option Addr) (n c : Nat) (A' : Option Addr) (n' c' : Nat) (d : Dsk) : Prop where
 blocks : Blks w B A n c d.blocks
 late : Lats w B A' n' c' d.late
theorem DskAt.below {w w' : World} {B : Nat} {A : Option Addr} {n c : Nat} {A' : Option Addr} {n' c' : Nat} {d : Dsk} (h : DskAt w B A n c A' n' c' d) (hb : Below B w w') : DskAt w' B A n c A' n' c' d := ⟨h.1.below hb, h.2.below hb⟩
end Go.Proofs.YtdmnmfnmaccmoaaGreatDoor
/- Disks of the call's own: rows of blocks, rows of late writes, with their bytes apart from the row. No walk here. -/
namespace Go.Proofs.YtdmnmfnmaccmoaaGreatDoor
open Go Go.RowKit
def ByE (w : World) (base : Nat) (v : Value) (l : List UInt8) : Prop :=
 ∃ A n c, v = .slice A n c ∧ By w w.heap.size A n c l ∧ ∀ ad, A = some ad → ad.block < base ∨ ∃ cur, w.heap[ad.block]? = some (.cells cur 5 (0, 0))
section
variable {w w' : World} {base : Nat} {v : Value} {l : List UInt8}
theorem ByE.ext (h : ByE w base v l) (hb : Ext w w') : ByE w' base v l := by
 obtain ⟨A, n, c, rfl, hy, ha⟩ := h
 refine ⟨A, n, c, rfl, (Sl.below hy hb).more hb.size, fun ad e => ?_⟩
 rcases ha ad e with h1 | ⟨cur, h1⟩
 ·exact .inl h1
 ·exact .inr ⟨cur, (hb.block _ (Array.getElem?_eq_some_iff.1 h1).1).trans h1⟩
theorem ByE.of_own {n : Nat} (h : w.ownsRow base 5 1 v n (u8s l)) : ByE w base v l := by
 obtain ⟨A, c, rfl, hs⟩ := own_shape h
 refine ⟨A, n, c, rfl, hs, fun ad e => ?_⟩
 subst e
 rcases h.2 with ⟨h1, _⟩ | ⟨g, cap, cur, h1, _, hg, _⟩
 ·injection h1 with h1; cases h1
 ·injection h1 with h1
  injection h1 with h1
  subst h1
  exact .inr ⟨cur, hg⟩
theorem ByE.of_by {B n c : Nat} {A : Option Addr} (h : By w B A n c l) (hB : B ≤ base) (hB' : B ≤ w.heap.size) (h0 : n = 0 → A = none) : ByE w base (.slice A n c) l := by
 refine ⟨A, n, c, rfl, Sl.more h hB', fun ad e => ?_⟩
 rcases Nat.eq_zero_or_pos n with hn | hn
 ·rw [h0 hn] at e; cases e
 ·obtain ⟨ad', e', hb, _⟩ := Sl.at_ h hn
  rw [e] at e'
  injection e' with e'
  subst e'
  exact .inl (by omega)
theorem ByE.byV (h : ByE w base v l) : ByV w w.heap.size v l := by
 obtain ⟨A, n, c, rfl, hy, _⟩ := h
 exact ⟨A, n, c, rfl, hy⟩
theorem ByE.more {base' : Nat} (h : ByE w base v l) (hb : base ≤ base') : ByE w base' v l := by
 obtain ⟨A, n, c, rfl, hy, ha⟩ := h
 exact ⟨A, n, c, rfl, hy, fun ad e => (ha ad e).imp (fun h => by omega) id⟩
theorem ByE.turned {g : Nat} (h : ByE w base v l) (hsz : w.heap.size ≤ w'.heap.size) (hblk : ∀ k, k < w.heap.size → k ≠ g → w'.heap[k]? = w.heap[k]?) (hg : base ≤ g) (ht : ∀ cur, w.heap[g]? ≠ some (.cells cur 5 (0, 0))) : ByE w' base v l := by
 obtain ⟨A, n, c, rfl, hy, ha⟩ := h
 have hne : ∀ ad, A = some ad → ad.block ≠ g := by
  intro ad e e2
  rcases ha ad e with h1 | ⟨cur, h1⟩
  ·omega
  ·rw [e2] at h1; exact ht _ h1
 refine ⟨A, n, c, rfl, ⟨Sl.len hy, Sl.cap hy, Sl.max hy, fun hn => ?_⟩, fun ad e => ?_⟩
 ·obtain ⟨ad, e, hb, hc⟩ := Sl.at_ hy hn
  exact ⟨ad, e, by omega, fun j u hu => (World.cell?_of_block (w := w) (a := ad.add j) (by rw [block_of_add]; exact hblk _ hb (hne ad e))).trans (hc j u hu)⟩
 ·rcases ha ad e with h1 | ⟨cur, h1⟩
  ·exact .inl h1
  ·exact .inr ⟨cur, (hblk _ (Array.getElem?_eq_some_iff.1 h1).1 (hne ad e)).trans h1⟩
end
def OwnBlks (w : World) (rb base : Nat) (v : Value) (bs : List (List UInt8)) : Prop :=
 ∃ vs, w.ownsRow rb 22 1 v bs.length vs ∧ ∀ i, i < bs.length → ByE w base (vs.getD i (.bool false)) (bs.getD i [])
def OwnLats (w : World) (rb base : Nat) (v : Value) (ls : List (Int × List UInt8)) : Prop :=
 ∃ vs : List (Int × Value), vs.length = ls.length ∧ w.ownsRow rb 104 2 v ls.length (lcells vs) ∧ ∀ i, i < ls.length → (vs.getD i (0, .bool false)).1 = (ls.getD i (0, [])).1 ∧ ByE w base (vs.getD i (0, .bool false)).2 (ls.getD i (0, [])).2
section
variable {w w' : World} {rb base : Nat} {v : Value}
theorem OwnBlks.ext {bs : List (List UInt8)} (h : OwnBlks w rb base v bs) (hb : Ext w w') : OwnBlks w' rb base v bs := by
 obtain ⟨vs, ho, hv⟩ := h
 exact ⟨vs, own_ext ho hb, fun i hi => (hv i hi).ext hb⟩
theorem OwnBlks.shape {bs : List (List UInt8)} (h : OwnBlks w rb base v bs) : ∃ A c, v = .slice A bs.length c ∧ Blks w w.heap.size A bs.length c bs := by
 obtain ⟨vs, ho, hv⟩ := h
 obtain ⟨A, c, rfl, hs⟩ := own_shape ho
 exact ⟨A, c, rfl, vs, by have := ho.1; omega, hs, fun i hi => (hv i hi).byV⟩
theorem OwnBlks.nil (w : World) (rb base : Nat) : OwnBlks w rb base (.slice none 0 0) [] := ⟨[], own_nil _ _ _ _, fun i hi => absurd hi (by simp)⟩
theorem OwnLats.ext {ls : List (Int × List UInt8)} (h : OwnLats w rb base v ls) (hb : Ext w w') : OwnLats w' rb base v ls := by
 obtain ⟨vs, e, ho, hv⟩ := h
 exact ⟨vs, e, own_ext ho hb, fun i hi => ⟨(hv i hi).1, (hv i hi).2.ext hb⟩⟩
theorem OwnLats.shape {ls : List (Int × List UInt8)} (h : OwnLats w rb base v ls) : ∃ A c, v = .slice A ls.length c ∧ Lats w w.heap.size A ls.length c ls := by
 obtain ⟨vs, e, ho, hv⟩ := h
 obtain ⟨A, c, rfl, hs⟩ := own_shape ho
 exact ⟨A, c, rfl, vs, e, hs, fun i hi => ⟨(hv i hi).1, (hv i hi).2.byV⟩⟩
theorem OwnLats.nil (w : World) (rb base : Nat) : OwnLats w rb base (.slice none 0 0) [] := ⟨[], rfl, own_nil _ _ _ _, fun i hi => absurd hi (by simp)⟩
theorem own_setT {e size n g : Nat} {xs : List Value} {t : TypeId} {cs : Array Value} (h : w.ownsRow rb e size v n xs) (hb : Box w g t cs) (ht : t ≠ e) (j : Nat) (u : Value) : (w.setCell ⟨g, j, none⟩ u).ownsRow rb e size v n xs := by
 refine ⟨h.1, ?_⟩
 rcases h.2 with hn | ⟨g', cap, cur, rfl, h1, hgg, rest⟩
 ·exact .inl hn
 ·refine .inr ⟨g', cap, cur, rfl, h1, (Below.heap_setCell w ⟨g, j, none⟩ u g' ?_).trans hgg, rest⟩
  rintro rfl
  rw [hb] at hgg
  injection hgg with hgg
  injection hgg with _ hgg
  exact ht hgg
theorem ByE.set {l : List UInt8} {g : Nat} {t : TypeId} {cs : Array Value} (h : ByE w base v l) (hb : Box w g t cs) (ht : t ≠ 5) (hg : base ≤ g) (j : Nat) (u : Value) : ByE (w.setCell ⟨g, j, none⟩ u) base v l :=
 h.turned (g := g) (by rw [size_set]; exact Nat.le_refl _) (fun k _ hne => Below.heap_setCell _ _ _ _ hne) hg (fun cur e0 => by
  rw [hb] at e0
  injection e0 with e0
  injection e0 with _ e0
  exact ht e0)
theorem OwnBlks.set {bs : List (List UInt8)} {g : Nat} {t : TypeId} {cs : Array Value} (h : OwnBlks w rb base v bs) (hb : Box w g t cs) (ht : t ≠ 5) (ht' : t ≠ 22) (hg : base ≤ g) (j : Nat) (u : Value) : OwnBlks (w.setCell ⟨g, j, none⟩ u) rb base v bs := by
 obtain ⟨vs, ho, hv⟩ := h
 exact ⟨vs, own_setT ho hb ht' j u, fun i hi => (hv i hi).set hb ht hg j u⟩
theorem OwnLats.set {ls : List (Int × List UInt8)} {g : Nat} {t : TypeId} {cs : Array Value} (h : OwnLats w rb base v ls) (hb : Box w g t cs) (ht : t ≠ 5) (ht' : t ≠ 104) (hg : base ≤ g) (j : Nat) (u : Value) : OwnLats (w.setCell ⟨g, j, none⟩ u) rb base v ls := by
 obtain ⟨vs, e, ho, hv⟩ := h
 exact ⟨vs, e, own_setT ho hb ht' j u, fun i hi => ⟨(hv i hi).1, (hv i hi).2.set hb ht hg j u⟩⟩
theorem OwnBlks.more {bs : List (List UInt8)} {rb' : Nat} (h : OwnBlks w rb base v bs) (hb : rb' ≤ rb) : OwnBlks w rb' base v bs := by
 obtain ⟨vs, ho, hv⟩ := h
 exact ⟨vs, own_more ho hb, hv⟩
theorem OwnLats.more {ls : List (Int × List UInt8)} {rb' : Nat} (h : OwnLats w rb base v ls) (hb : rb' ≤ rb) : OwnLats w rb' base v ls := by
 obtain ⟨vs, e, ho, hv⟩ := h
 exact ⟨vs, e, own_more ho hb, hv⟩
end
end Go.Proofs.YtdmnmfnmaccmoaaGreatDoor
/- Disks of the call's own: one more block, one more late write. No walk here. -/
namespace Go.Proofs.YtdmnmfnmaccmoaaGreatDoor
open Go Go.RowKit
theorem ByE.grown {w w' : World} {base : Nat} {v : Value} {l : List UInt8} {row : Option Nat} (h : ByE w base v l) (hg : w.grownBy w' row) (hr : ∀ g, row = some g → base ≤ g ∧ ∀ cur, w.heap[g]? ≠ some (.cells cur 5 (0, 0))) : ByE w' base v l := by
 obtain ⟨A, n, c, rfl, hy, ha⟩ := h
 have hne : ∀ ad, A = some ad → some ad.block ≠ row := by
  intro ad e e2
  obtain ⟨h1, h2⟩ := hr _ e2.symm
  rcases ha ad e with h3 | ⟨cur, h3⟩
  ·omega
  ·exact h2 _ h3
 refine ⟨A, n, c, rfl, Sl.more (Sl.grown hy (Nat.le_refl _) hg hne) hg.size, fun ad e => ?_⟩
 rcases ha ad e with h1 | ⟨cur, h1⟩
 ·exact .inl h1
 ·exact .inr ⟨cur, (hg.block _ (Array.getElem?_eq_some_iff.1 h1).1 (hne ad e)).trans h1⟩
theorem row_kind {w : World} {base e size n : Nat} {v : Value} {xs : List Value} (h : w.ownsRow base e size v n xs) (he : e ≠ 5) :
  ∀ g, v.ownBlock = some g → base ≤ g ∧ ∀ cur, w.heap[g]? ≠ some (.cells cur 5 (0, 0)) := by
 intro g hg
 rcases h.2 with ⟨rfl, _⟩ | ⟨g', cap, cur, rfl, h1, h2, _⟩
 ·cases hg
 ·simp only [Value.ownBlock, Option.some.injEq] at hg
  subst hg
  refine ⟨h1, fun cur' e' => ?_⟩
  rw [h2] at e'
  injection e' with e'
  injection e' with _ e'
  exact he e'
theorem getD_snoc {α : Type} (d : α) (l : List α) (x : α) (i : Nat) (hi : i < (l ++ [x]).length) : (i < l.length ∧ (l ++ [x]).getD i d = l.getD i d) ∨ (i = l.length ∧ (l ++ [x]).getD i d = x) := by
 rcases Nat.lt_or_ge i l.length with h | h
 ·exact .inl ⟨h, by rw [List.getD_eq_getElem?_getD, List.getElem?_append_left h, ← List.getD_eq_getElem?_getD]⟩
 ·rw [List.length_append, List.length_singleton] at hi
  have e : i = l.length := by omega
  subst e
  exact .inr ⟨rfl, by rw [List.getD_eq_getElem?_getD, List.getElem?_append_right (Nat.le_refl _), Nat.sub_self]; rfl⟩
theorem OwnBlks.snoc {w w' : World} {rb base : Nat} (hrb : base ≤ rb) {v v' u : Value} {bs : List (List UInt8)} {b : List UInt8} {vs : List Value} (ho : w.ownsRow rb 22 1 v bs.length vs) (hv : ∀ i, i < bs.length → ByE w base (vs.getD i (.bool false)) (bs.getD i []))
  (hu : ByE w base u b) (ho' : w'.ownsRow rb 22 1 v' (bs.length + 1) (vs ++ [u])) (hg : w.grownBy w' v.ownBlock) : OwnBlks w' rb base v' (bs ++ [b]) := by
 have hk := fun g e => (row_kind ho (by decide) g e).imp (fun h => Nat.le_trans hrb h) id
 have hlen : vs.length = bs.length := by have := ho.1; omega
 refine ⟨vs ++ [u], by simpa using ho', fun i hi => ?_⟩
 rcases getD_snoc [] bs b i hi with ⟨h1, e1⟩ | ⟨h1, e1⟩
 ·rcases getD_snoc (.bool false) vs u i (by simp at hi ⊢; omega) with ⟨h2, e2⟩ | ⟨h2, e2⟩
  ·rw [e1, e2]; exact (hv i h1).grown hg hk
  ·omega
 ·rcases getD_snoc (.bool false) vs u i (by simp at hi ⊢; omega) with ⟨h2, e2⟩ | ⟨h2, e2⟩
  ·omega
  ·rw [e1, e2]; exact hu.grown hg hk
theorem OwnLats.snoc {w w' : World} {rb base : Nat} (hrb : base ≤ rb) {v v' u : Value} {k : Int} {ls : List (Int × List UInt8)} {b : List UInt8} {vs : List (Int × Value)} (he : vs.length = ls.length) (ho : w.ownsRow rb 104 2 v ls.length (lcells vs))
  (hv : ∀ i, i < ls.length → (vs.getD i (0, .bool false)).1 = (ls.getD i (0, [])).1 ∧ ByE w base (vs.getD i (0, .bool false)).2 (ls.getD i (0, [])).2)
  (hu : ByE w base u b) (ho' : w'.ownsRow rb 104 2 v' (ls.length + 1) (lcells vs ++ [.int .i64 k, u])) (hg : w.grownBy w' v.ownBlock) : OwnLats w' rb base v' (ls ++ [(k, b)]) := by
 have hk := fun g e => (row_kind ho (by decide) g e).imp (fun h => Nat.le_trans hrb h) id
 refine ⟨vs ++ [(k, u)], by simp [he], by rw [lcells_append, List.length_append]; exact ho', fun i hi => ?_⟩
 rcases getD_snoc (0, []) ls (k, b) i hi with ⟨h1, e1⟩ | ⟨h1, e1⟩
 ·rcases getD_snoc (0, .bool false) vs (k, u) i (by simp at hi ⊢; omega) with ⟨h2, e2⟩ | ⟨h2, e2⟩
  ·rw [e1, e2]; exact ⟨(hv i h1).1, (hv i h1).2.grown hg hk⟩
  ·omega
 ·rcases getD_snoc (0, .bool false) vs (k, u) i (by simp at hi ⊢; omega) with ⟨h2, e2⟩ | ⟨h2, e2⟩
  ·omega
  ·rw [e1, e2]; exact ⟨rfl, hu.grown hg hk⟩
end Go.Proofs.YtdmnmfnmaccmoaaGreatDoor
/- The walks of chapter 1. -/
namespace Go.Proofs.YtdmnmfnmaccmoaaGreatDoor
open Go Go.RowKit
theorem ofInt_i64 (a : Nat) (ha : a < 9223372036854775808) : (BitVec.ofInt 64 (a : Int)).toNat = a := by
 rw [BitVec.ofInt_natCast, BitVec.toNat_ofNat]; exact Nat.mod_eq_of_lt (by omega)
theorem i64_or_nat (a b : Nat) (ha : a < 9223372036854775808) (hb : b < 9223372036854775808) : bits .or .i64 (a : Int) (b : Int) = ((a ||| b : Nat) : Int) := by
 have hx : a ||| b < 2 ^ 63 := Nat.or_lt_two_pow (by omega) (by omega)
 show IntKind.i64.wrap ((BitVec.ofInt 64 (a : Int) ||| BitVec.ofInt 64 (b : Int)).toNat : Int) = _
 rw [BitVec.toNat_or, ofInt_i64 a ha, ofInt_i64 b hb, IntKind.wrap_i64]
 omega
theorem two_cells (n : Int) (h0 : 0 ≤ n) (h1 : n < 65536) : #[Value.int IntKind.u8 (n / 256), Value.int IntKind.u8 (n % 256)] = (u8s (sTwo n)).toArray := by
 have e1 : ((b8 (n / 256)).toNat : Int) = n / 256 := by rw [b8_toNat]; omega
 have e2 : ((b8 n).toNat : Int) = n % 256 := by rw [b8_toNat]; omega
 simp [u8s, u8v, sTwo, e1, e2]
set_option maxHeartbeats 400000 in
theorem two_w (n : Int) (w : World) (h0 : 0 ≤ n) (h1 : n < 65536) :
  Calls Tryz.prog 78 #[.int .i64 n] w fun e w' => e = .returned (.slice (some ⟨w.heap.size, 0, none⟩) 2 2) ∧ w.alloc (.cells (u8s (sTwo n)).toArray 5) = w' := by
 go_enter Tryz.func78, Tryz.ntmps78
 go_wp2
 go_ret
 exact ⟨rfl, by rw [two_cells n h0 h1]⟩
theorem sOf_succ (l : List UInt8) (k : Nat) (h : k < l.length) : sOf (l.take (k + 1)) = sStep (sOf (l.take k)) (l.getD k 0) := by
 unfold sOf
 rw [List.take_succ_eq_append_getElem h, List.foldl_append]
 simp [List.getD_eq_getElem?_getD, List.getElem?_eq_getElem h]
set_option maxHeartbeats 400000 in
theorem of_w (A : Option Addr) (n c B : Nat) (l : List UInt8) (w : World) (h : By w B A n c l) :
  Calls Tryz.prog 102 #[.slice A n c] w fun e w' => e = .returned (.int .i64 (sOf l)) ∧ w = w' := by
 have hm := Sl.max h
 have hn := Sl.cap h
 unfold maxLen at hm
 have hl := h.len
 go_enter Tryz.func102, Tryz.ntmps102
 go_wp2
 go_loop [3, 8] (fun s i => ∃ k : Nat, k ≤ n ∧ i = .int .i64 k ∧ s = .int .i64 (sOf (l.take k))) (fun _ i => n - (intOf i).toNat)
 case atStart => exact ⟨0, Nat.zero_le _, rfl, rfl⟩
 case round =>
  obtain ⟨k, hk, rfl, rfl⟩ := hrel
  have hb := sOf_bd (l.take k)
  by_cases hlt : k < n
  ·obtain ⟨b, o, x, rfl, hB, hck, h80, h81, Hb⟩ := h.byte hlt
   have Hx := Lib.hid (sOf_succ l k (by omega))
   clear hl
   go_wp2
   go_round
   case rel => exact ⟨k + 1, by omega, by go_num, by rw [Hx.out, sStep, ← Hb.out]⟩
   case measure => simp [intOf]; omega
  ·go_wp2
   go_ret
   exact ⟨by rw [List.take_of_length_le (by omega)]; rfl, rfl⟩
theorem num_bits (a b : Int) (ha : 0 ≤ a ∧ a < 256) (hb : 0 ≤ b ∧ b < 256) : bits BinOp.or IntKind.i64 (a * 256) b = a * 256 + b := by
 obtain ⟨x, rfl⟩ := Int.eq_ofNat_of_zero_le ha.1
 obtain ⟨y, rfl⟩ := Int.eq_ofNat_of_zero_le hb.1
 have hx : x < 256 := by omega
 have hy : y < 256 := by omega
 have := i64_or_nat (x * 256) y (by omega) (by omega)
 have e : ((x * 256 : Nat) : Int) = (x : Int) * 256 := by omega
 rw [e] at this
 rw [this]
 have h2 : x * 256 ||| y = x * 256 + y := by
  have := Nat.two_pow_add_eq_or_of_lt (i := 8) (b := y) (by omega) x
  rw [Nat.mul_comm x 256]
  exact this.symm
 rw [h2, Int.natCast_add, e]
set_option maxHeartbeats 400000 in
theorem number_w (a b : Int) (w : World) (ha : 0 ≤ a ∧ a < 256) (hb : 0 ≤ b ∧ b < 256) :
  Calls Tryz.prog 132 #[.int .u8 a, .int .u8 b] w fun e w' => e = .returned (.int .i64 (a * 256 + b)) ∧ w = w' := by
 go_enter Tryz.func132, Tryz.ntmps132
 go_wp2
 go_ret
 exact ⟨by rw [num_bits a b ha hb]; rfl, rfl⟩
theorem seal_cells (l : List UInt8) (S : Int) (h : sOf l = S) : [] ++ u8s l ++ u8s (sTwo S) = u8s (sSeal l) := by
 rw [← h, List.nil_append, ← u8s_append]; rfl
set_option maxHeartbeats 400000 in
theorem seal_w (A : Option Addr) (n c B : Nat) (l : List UInt8) (w : World) (h : By w B A n c l) (hB : B ≤ w.heap.size) (hn : n + 2 ≤ blim) :
  Calls Tryz.prog 79 #[.slice A n c] w fun e w' => ∃ v, e = .returned v ∧ w'.ownsRow w.heap.size 5 1 v (n + 2) (u8s (sSeal l)) ∧ Ext w w' := by
 have hl := h.len
 have hbd := sOf_bd l
 generalize hS : sOf l = S at hbd
 have HS := Lib.hid hS
 clear hS
 go_enter Tryz.func79, Tryz.ntmps79
 go_wp2_with (first
  | (at_builtin; refine app_u8 rfl (.const (.slice none 0 0)) (.tmp 3) rfl w.heap.size _ 0 [] rfl (own_nil _ _ _ _) B A n c (u8s l) rfl h (u8s_one _) (by omega) (Nat.le_refl _) ?_; intro v1 w1 hown1 hg1 hb1 hat1)
  | (go_at_call 102; refine (of_w _ _ _ _ l _ (Sl.below h (hb1.mono hB))).mono ?_; rintro e w' ⟨rfl, rfl⟩; rw [HS.out])
  | (go_at_call 78; refine (two_w S _ hbd.1 (by omega)).mono ?_; rintro e w' ⟨rfl, rfl⟩)
  | (at_builtin; refine app_u8 rfl (.tmp 4) (.tmp 7) rfl w.heap.size v1 (0 + n) _ rfl (hown1.alloc _) (w1.heap.size + 1) _ 2 2 (u8s (sTwo S)) rfl (Sl.new _ _ _ _ 1 2 (by simp [sTwo, u8s]) (by unfold maxLen; omega) (Nat.lt_succ_self _)) (u8s_one _) (by omega) (by rw [size_alloc]; have := hb1.size; omega) ?_; intro v2 w2 hown2 hg2 hb2 hat2))
 go_ret
 rw [Nat.zero_add, seal_cells _ _ HS.out] at hown2
 exact ⟨v2, rfl, hown2, (hb1.trans ((ext_alloc _ _).mono hb1.size)).trans hb2⟩
end Go.Proofs.YtdmnmfnmaccmoaaGreatDoor
/- The walks of chapter 1, on. -/
namespace Go.Proofs.YtdmnmfnmaccmoaaGreatDoor
open Go Go.RowKit
theorem sSealed_short (l : List UInt8) (h : l.length < 2) : sSealed l = false := by
 unfold sSealed
 rw [decide_eq_false (by omega)]; rfl
set_option maxHeartbeats 400000 in
theorem sealed_short (A : Option Addr) (n c B : Nat) (l : List UInt8) (w : World) (h : By w B A n c l) (hlt : n < 2) :
  Calls Tryz.prog 131 #[.slice A n c] w fun e w' => e = .returned (.bool (sSealed l)) ∧ ∃ m, w' = w.drewN m := by
 have hl := h.len
 have hs := Lib.hid (sSealed_short l (by omega))
 have hd : decide ((2 : Int) ≤ (n : Int)) = false := by simp; omega
 clear hl
 go_enter Tryz.func131, Tryz.ntmps131
 go_wp2_with fail
 go_quiet (fail)
 go_wp2
 go_ret
 exact ⟨by rw [hs.out]; rfl, _, rfl⟩
set_option maxHeartbeats 400000 in
theorem sealed_long (A : Option Addr) (n c B : Nat) (l : List UInt8) (w : World) (h : By w B A n c l) (hlt : 2 ≤ n) :
  Calls Tryz.prog 131 #[.slice A n c] w fun e w' => e = .returned (.bool (sSealed l)) ∧ ∃ m, w' = w.drewN m := by
 have hl := h.len
 obtain ⟨m, rfl⟩ : ∃ m, n = m + 2 := ⟨n - 2, by omega⟩
 obtain ⟨b, o, x, rfl, hB, hx, hx0, hx1, Hx⟩ := h.byte (k := m) (by omega)
 obtain ⟨b', o', y, e, _, hy, hy0, hy1, Hy⟩ := h.byte (k := m + 1) (by omega)
 cases e
 have ht := h.take (k := m) (by omega)
 have hcap := Sl.cap h
 have hmax := Sl.max h
 unfold maxLen at hmax
 have hr : sSealed l = decide (x * 256 + y = sOf (l.take m)) := by
  unfold sSealed sNum
  rw [hl, decide_eq_true (by omega), Nat.add_sub_cancel, show m + 2 - 1 = m + 1 by omega, ← Hx.out, ← Hy.out]
  rfl
 have Hr := Lib.hid hr
 have i0 : (0 : Int) ≤ (m : Int) := by omega
 have i1 : (m : Int) < (m : Int) + 2 := by omega
 have i2 : (0 : Int) ≤ (m : Int) + 1 := by omega
 have i3 : (m : Int) + 1 < (m : Int) + 2 := by omega
 have i4 : IntKind.i64.wrap ((m : Int) + 1) = (m : Int) + 1 := IntWalk.i64_in _ (by omega)
 have i5 : ((m : Int) + 1).toNat = m + 1 := by omega
 have i6 : (m : Int) ≤ (c : Int) := by omega
 clear hl hr
 go_enter Tryz.func131, Tryz.ntmps131
 go_wp2_with fail
 go_quiet (first | (go_at_call 132; exact Calls.quiet_of_same ((number_w x y _ ⟨hx0, hx1⟩ ⟨hy0, hy1⟩).mono fun _ _ h => ⟨h.1, h.2.symm⟩)) | (go_at_call 102; exact Calls.quiet_of_same ((of_w _ _ _ _ _ _ (Sl.drewN ht _)).mono fun _ _ h => ⟨h.1, h.2.symm⟩)))
 go_wp2
 go_ret
 refine ⟨?_, _, rfl⟩
 rw [Hr.out]
 rfl
theorem ext_drewN (w : World) (m : Nat) : Below w.heap.size w (w.drewN m) := ⟨rfl, rfl, rfl, Nat.le_refl _, fun _ _ => rfl⟩
theorem sealed_q (A : Option Addr) (n c B : Nat) (l : List UInt8) (w : World) (h : By w B A n c l) :
  Calls Tryz.prog 131 #[.slice A n c] w fun e w' => e = .returned (.bool (sSealed l)) ∧ ∃ m, w' = w.drewN m := by
 rcases Nat.lt_or_ge n 2 with h2 | h2
 ·exact sealed_short A n c B l w h h2
 ·exact sealed_long A n c B l w h h2
theorem sealed_w (A : Option Addr) (n c B : Nat) (l : List UInt8) (w : World) (h : By w B A n c l) :
  Calls Tryz.prog 131 #[.slice A n c] w fun e w' => e = .returned (.bool (sSealed l)) ∧ Ext w w' :=
 (sealed_q A n c B l w h).mono fun _ _ ⟨he, m, hm⟩ => ⟨he, by subst hm; exact ext_drewN w m⟩
end Go.Proofs.YtdmnmfnmaccmoaaGreatDoor
/- Walks: slices.Equal and slices.Clone of bytes; records' Same, Own, Wrong, and the document's. -/
namespace Go.Proofs.YtdmnmfnmaccmoaaGreatDoor
open Go Go.RowKit
theorem take_eq_succ (l l' : List UInt8) (k : Nat) (h : l.take k = l'.take k) (hk : k < l.length) (hk' : k < l'.length) (he : l.getD k 0 = l'.getD k 0) : l.take (k + 1) = l'.take (k + 1) := by
 rw [List.take_succ_eq_append_getElem hk, List.take_succ_eq_append_getElem hk', h]
 simp only [List.getD_eq_getElem?_getD, List.getElem?_eq_getElem hk, List.getElem?_eq_getElem hk', Option.getD_some] at he
 rw [he]
theorem byte_eq {x : Int} {a b : UInt8} (hx : x = (a.toNat : Int)) (hy : x = (b.toNat : Int)) : a = b := by
 apply UInt8.toNat_inj.1
 omega
set_option maxRecDepth 100000 in
set_option maxHeartbeats 400000 in
theorem equal_w {A A' : Option Addr} {n c n' c' B B' : Nat} {l l' : List UInt8} (w : World) (h : By w B A n c l) (h' : By w B' A' n' c' l') :
  Calls Tryz.prog 82 #[.slice A n c, .slice A' n' c'] w fun e w' => e = .returned (.bool (l == l')) ∧ ∃ m, w' = w.drewN m := by
 have hl := h.len
 have hl' := h'.len
 by_cases hn : n = n'
 ·subst hn
  have hm := Sl.max h
  have hc := Sl.cap h
  unfold maxLen at hm
  have hll : l.length = l'.length := by omega
  have Hll := Lib.hid hll
  have Hl := Lib.hid hl
  clear hl hl' hll
  go_enter Tryz.func82, Tryz.ntmps82
  go_wp2
  go_loopw [5, 13] (fun _ i wr => ∃ k : Nat, k ≤ n ∧ i = .int .i64 k ∧ Hid (l.take k = l'.take k) ∧ ∃ m, wr = w.drewN m) (fun _ i _ => n - (intOf i).toNat)
  case atStart => exact ⟨0, Nat.zero_le _, rfl, rfl, 0, rfl⟩
  case round =>
   obtain ⟨k, hk, rfl, ht, q, rfl⟩ := hrel
   by_cases hlt : k < n
   ·obtain ⟨b, o, x, rfl, _, hx, hx0, hx1, Hx⟩ := h.byte hlt
    obtain ⟨b', o', y, rfl, _, hy, hy0, hy1, Hy⟩ := h'.byte hlt
    have i0 : (0 : Int) ≤ (k : Int) := by omega
    have i1 : (k : Int) < (n : Int) := by omega
    by_cases hxy : x = y
    ·subst hxy
     have hs : Hid (l.take (k + 1) = l'.take (k + 1)) := take_eq_succ l l' k ht.out (by have := Hl.out; omega) (by have := Hl.out; have := Hll.out; omega) (byte_eq Hx.out Hy.out)
     go_wp2_with fail
     go_quiet (fail)
     go_wp2
     go_roundw
     case rel => exact ⟨k + 1, by omega, by go_num, hs, _, rfl⟩
     case measure => simp [intOf]; omega
    ·have hne : (x != y) = true := by simpa using hxy
     have hlne : (l == l') = false := by
      rw [beq_eq_false_iff_ne]
      rintro rfl
      exact hxy (Hx.out.trans Hy.out.symm)
     have Hne := Lib.hid hlne
     clear hlne hxy
     go_wp2_with fail
     go_quiet (fail)
     go_wp2
     go_ret
     exact ⟨by rw [Hne.out]; rfl, q + nq, World.drewN_drewN ..⟩
   ·have hlle : (l == l') = true := by
     have := ht.out
     rw [List.take_of_length_le (by have := Hl.out; omega), List.take_of_length_le (by have := Hl.out; have := Hll.out; omega)] at this
     rw [this]
     simp
    have Hlle := Lib.hid hlle
    clear hlle
    go_wp2
    go_ret
    exact ⟨by rw [Hlle.out]; rfl, _, rfl⟩
 ·have hne : ((n : Int) != (n' : Int)) = true := by rw [bne_iff_ne]; omega
  have hlne : (l == l') = false := by
   rw [beq_eq_false_iff_ne]
   rintro rfl
   omega
  have Hne := Lib.hid hlne
  clear hlne hl hl' hn
  go_enter Tryz.func82, Tryz.ntmps82
  go_wp2
  go_ret
  exact ⟨by rw [Hne.out]; rfl, 0, rfl⟩
set_option maxHeartbeats 400000 in
theorem clone_w {A : Option Addr} {n c B : Nat} {l : List UInt8} (w : World) (h : By w B A n c l) (hB : B ≤ w.heap.size) (hn : n ≤ blim) :
  Calls Tryz.prog 50 #[.slice A n c] w fun e w' => ∃ v, e = .returned v ∧ w'.ownsRow w.heap.size 5 1 v n (u8s l) ∧ Ext w w' := by
 have qT : ∀ (w : World) (a : Option Addr) (n c n' c' : Nat), (binOp .eql 22 (.slice a n c) (.slice none n' c')).run Tryz.prog w = .ok (.bool a.isNone) w := fun w a n c n' c' => Lib.run_eql_slice_nil w _ _ a n c n' c' Tryz.underlying22
 have hl := h.len
 cases A with
 | none =>
  have hn0 : n = 0 := by
   rcases Nat.eq_zero_or_pos n with h0 | h0
   ·exact h0
   ·obtain ⟨b, o, e, _⟩ := Sl.form h h0 (by decide); cases e
  subst hn0
  have hl0 : l = [] := List.eq_nil_of_length_eq_zero hl
  subst hl0
  clear hl
  go_enter Tryz.func50, Tryz.ntmps50
  go_wp2
  go_ret
  exact ⟨_, rfl, own_nil _ _ _ _, Below.refl _ _⟩
 | some ad =>
  clear hl
  go_enter Tryz.func50, Tryz.ntmps50
  go_wp2_with (at_builtin; refine app_u8 rfl (.tmp 5) (.tmp 6) rfl w.heap.size _ 0 [] rfl (own_lit _ [] _ (Nat.le_refl _) rfl (by unfold maxLen; omega)) B _ n c (u8s l) rfl (Sl.below h ((ext_alloc _ _).mono hB)) (u8s_one _) (by omega) (by rw [size_alloc]; omega) ?_; intro v1 w1 hown1 hg1 hb1 hat1)
  go_ret
  rw [Nat.zero_add, List.nil_append] at hown1
  exact ⟨v1, rfl, hown1, (ext_alloc _ _).trans hb1⟩
theorem wrong_ways (P : Prop) (r : Rec) (n : Nat) (hl : r.data.length = n)
  (a1 : decide (r.kind < 1) = true → Hid (rWrong r = 1) → P)
  (a2 : decide (r.kind < 1) = false → decide (3 < r.kind) = true → Hid (rWrong r = 1) → P)
  (a3 : decide (r.kind < 1) = false → decide (3 < r.kind) = false → (r.kind == 1) = true → r.kind = 1 → (r.key != 0) = true → (decide (r.key < 0) = true ∨ decide (r.key < 0) = false ∧ decide (0 < r.key) = true) → Hid (rWrong r = 3) → P)
  (a4 : decide (r.kind < 1) = false → decide (3 < r.kind) = false → (r.kind == 1) = true → r.kind = 1 → r.key = 0 → (r.ver != 0) = true → (decide (r.ver < 0) = true ∨ decide (r.ver < 0) = false ∧ decide (0 < r.ver) = true) → Hid (rWrong r = 3) → P)
  (a5 : decide (r.kind < 1) = false → decide (3 < r.kind) = false → (r.kind == 1) = true → r.kind = 1 → r.key = 0 → r.ver = 0 → (decide ((8 : Int) < (n : Int)) = true ∨ decide ((8 : Int) < (n : Int)) = false ∧ decide ((0 : Int) < (n : Int)) = true ∧ ((n : Int) != 0) = true) → Hid (rWrong r = 4) → P)
  (a6 : decide (r.kind < 1) = false → decide (3 < r.kind) = false → (r.kind == 1) = true → r.kind = 1 → r.key = 0 → r.ver = 0 → n = 0 → Hid (rWrong r = 0) → P)
  (a7 : decide (r.kind < 1) = false → decide (3 < r.kind) = false → (r.kind == 1) = false → (r.kind != 1) = true →
   (decide (r.key < 1) = true ∨ decide (r.key < 1) = false ∧ (decide (255 < r.key) = true ∨ decide (255 < r.key) = false ∧ (decide (r.ver < 1) = true ∨ decide (r.ver < 1) = false ∧ decide (60000 < r.ver) = true))) → Hid (rWrong r = 3) → P)
  (a8 : decide (r.kind < 1) = false → decide (3 < r.kind) = false → (r.kind == 1) = false → (r.kind != 1) = true →
   decide (r.key < 1) = false → decide (255 < r.key) = false → decide (r.ver < 1) = false → decide (60000 < r.ver) = false →
   (decide ((8 : Int) < (n : Int)) = true ∨ decide ((8 : Int) < (n : Int)) = false ∧ (r.kind != 2) = true ∧ decide ((0 : Int) < (n : Int)) = true ∧ ((n : Int) != 0) = true) → Hid (rWrong r = 4) → P)
  (a9 : decide (r.kind < 1) = false → decide (3 < r.kind) = false → (r.kind == 1) = false → (r.kind != 1) = true →
   decide (r.key < 1) = false → decide (255 < r.key) = false → decide (r.ver < 1) = false → decide (60000 < r.ver) = false →
   decide ((8 : Int) < (n : Int)) = false → ((r.kind != 2) = false ∨ (r.kind != 2) = true ∧ decide ((0 : Int) < (n : Int)) = false ∧ ((n : Int) != 0) = false) → Hid (rWrong r = 0) → P) : P := by
 subst hl
 have H : ∀ k, rWrong r = k → Hid (rWrong r = k) := fun _ h => h
 by_cases k1 : r.kind < 1
 ·exact a1 (by simpa using k1) (H _ (by unfold rWrong; rw [if_pos (.inl k1)]))
 by_cases k2 : 3 < r.kind
 ·exact a2 (by simpa using k1) (by simpa using k2) (H _ (by unfold rWrong; rw [if_pos (.inr k2)]))
 have K1 : decide (r.kind < 1) = false := by simpa using k1
 have K2 : decide (3 < r.kind) = false := by simpa using k2
 have kk : ¬ (r.kind < 1 ∨ 3 < r.kind) := by omega
 by_cases k3 : r.kind = 1
 ·have K3 : (r.kind == 1) = true := by simpa using k3
  by_cases y0 : r.key = 0
  ·by_cases v0 : r.ver = 0
   ·by_cases n0 : r.data.length = 0
    ·exact a6 K1 K2 K3 k3 y0 v0 n0 (H _ (by unfold rWrong; rw [if_neg kk, if_neg (by omega), if_neg (by omega), if_neg (by omega)]))
    ·refine a5 K1 K2 K3 k3 y0 v0 ?_ (H _ (by unfold rWrong; rw [if_neg kk, if_neg (by omega), if_neg (by omega), if_pos (by omega)]))
     simp only [decide_eq_true_eq, decide_eq_false_iff_not, bne_iff_ne]
     omega
   ·refine a4 K1 K2 K3 k3 y0 (by simpa using v0) ?_ (H _ (by unfold rWrong; rw [if_neg kk, if_pos ⟨k3, .inr v0⟩]))
    simp only [decide_eq_true_eq, decide_eq_false_iff_not]
    omega
  ·refine a3 K1 K2 K3 k3 (by simpa using y0) ?_ (H _ (by unfold rWrong; rw [if_neg kk, if_pos ⟨k3, .inl y0⟩]))
   simp only [decide_eq_true_eq, decide_eq_false_iff_not]
   omega
 ·have K3 : (r.kind == 1) = false := by simpa using k3
  have K3' : (r.kind != 1) = true := by simpa using k3
  by_cases hb : r.key < 1 ∨ 255 < r.key ∨ r.ver < 1 ∨ 60000 < r.ver
  ·refine a7 K1 K2 K3 K3' ?_ (H _ (by unfold rWrong; rw [if_neg kk, if_neg (by omega), if_pos ⟨k3, hb⟩]))
   simp only [decide_eq_true_eq, decide_eq_false_iff_not]
   omega
  ·have b1 : decide (r.key < 1) = false := by simp; omega
   have b2 : decide (255 < r.key) = false := by simp; omega
   have b3 : decide (r.ver < 1) = false := by simp; omega
   have b4 : decide (60000 < r.ver) = false := by simp; omega
   by_cases hm : 8 < r.data.length ∨ r.kind ≠ 2 ∧ 0 < r.data.length
   ·refine a8 K1 K2 K3 K3' b1 b2 b3 b4 ?_ (H _ (by unfold rWrong; rw [if_neg kk, if_neg (by omega), if_neg (by omega), if_pos hm]))
    simp only [decide_eq_true_eq, decide_eq_false_iff_not, bne_iff_ne]
    omega
   ·refine a9 K1 K2 K3 K3' b1 b2 b3 b4 (by simp; omega) ?_ (H _ (by unfold rWrong; rw [if_neg kk, if_neg (by omega), if_neg (by omega), if_neg hm]))
    simp only [decide_eq_false_iff_not, bne_iff_ne, bne_eq_false_iff_eq]
    omega
set_option maxRecDepth 100000 in
set_option maxHeartbeats 2000000 in
theorem wrong_w {A : Option Addr} {n c B : Nat} {r : Rec} (w : World) (h : By w B A n c r.data) :
  Calls Tryz.prog 69 #[.agg #[.int .i64 r.kind, .int .i64 r.key, .int .i64 r.ver, .slice A n c]] w fun e w' => e = .returned (.int .i64 (rWrong r)) ∧ Ext w w' := by
 have hl := h.len
 refine wrong_ways _ r n hl ?_ ?_ ?_ ?_ ?_ ?_ ?_ ?_ ?_
 ·intro q1 HW
  clear hl
  go_enter Tryz.func69, Tryz.ntmps69
  go_wp2
  go_ret
  exact ⟨by rw [HW.out]; rfl, ext_alloc _ _⟩
 ·intro q1 q2 HW
  clear hl
  go_enter Tryz.func69, Tryz.ntmps69
  go_wp2
  go_ret
  exact ⟨by rw [HW.out]; rfl, ext_alloc _ _⟩
 ·intro q1 q2 q3 k3 q4 _ HW
  have q5 : (r.kind != 1) = false := by simp [k3]
  clear hl k3
  go_enter Tryz.func69, Tryz.ntmps69
  go_wp2
  go_ret
  exact ⟨by rw [HW.out]; rfl, ext_alloc _ _⟩
 ·intro q1 q2 q3 k3 y0 q4 _ HW
  have q5 : (r.kind != 1) = false := by simp [k3]
  have q6 : (r.key != 0) = false := by simp [y0]
  clear hl k3 y0
  go_enter Tryz.func69, Tryz.ntmps69
  go_wp2
  go_ret
  exact ⟨by rw [HW.out]; rfl, ext_alloc _ _⟩
 ·intro q1 q2 q3 k3 y0 v0 hd HW
  have q5 : (r.kind != 1) = false := by simp [k3]
  have q6 : (r.key != 0) = false := by simp [y0]
  have q7 : (r.ver != 0) = false := by simp [v0]
  have q8 : (r.kind != 2) = true := by simp [k3]
  have q9 : decide (r.key < 0) = false := by simp [y0]
  have q10 : decide (0 < r.key) = false := by simp [y0]
  have q11 : decide (r.ver < 0) = false := by simp [v0]
  have q12 : decide (0 < r.ver) = false := by simp [v0]
  clear hl k3 y0 v0
  rcases hd with d1 | ⟨d1, d2, d3⟩
  ·skip
   go_enter Tryz.func69, Tryz.ntmps69
   go_wp2
   go_ret
   exact ⟨by rw [HW.out]; rfl, ext_alloc _ _⟩
  ·have d5 : 0 < n := by simpa using d2
   go_enter Tryz.func69, Tryz.ntmps69
   go_wp2
   go_ret
   exact ⟨by rw [HW.out]; rfl, ext_alloc _ _⟩
 ·intro q1 q2 q3 k3 y0 v0 n0 HW
  have q5 : (r.kind != 1) = false := by simp [k3]
  have q6 : (r.key != 0) = false := by simp [y0]
  have q7 : (r.ver != 0) = false := by simp [v0]
  have q8 : (r.kind != 2) = true := by simp [k3]
  have q9 : decide (r.key < 0) = false := by simp [y0]
  have q10 : decide (0 < r.key) = false := by simp [y0]
  have q11 : decide (r.ver < 0) = false := by simp [v0]
  have q12 : decide (0 < r.ver) = false := by simp [v0]
  clear hl k3 y0 v0
  subst n0
  go_enter Tryz.func69, Tryz.ntmps69
  go_wp2
  go_ret
  exact ⟨by rw [HW.out]; rfl, ext_alloc _ _⟩
 ·intro q1 q2 q3 q4 hd HW
  clear hl
  rcases hd with d1 | ⟨d1, d2 | ⟨d2, d3 | ⟨d3, d4⟩⟩⟩
  ·skip
   go_enter Tryz.func69, Tryz.ntmps69
   go_wp2
   go_ret
   exact ⟨by rw [HW.out]; rfl, ext_alloc _ _⟩
  ·skip
   go_enter Tryz.func69, Tryz.ntmps69
   go_wp2
   go_ret
   exact ⟨by rw [HW.out]; rfl, ext_alloc _ _⟩
  ·skip
   go_enter Tryz.func69, Tryz.ntmps69
   go_wp2
   go_ret
   exact ⟨by rw [HW.out]; rfl, ext_alloc _ _⟩
  ·skip
   go_enter Tryz.func69, Tryz.ntmps69
   go_wp2
   go_ret
   exact ⟨by rw [HW.out]; rfl, ext_alloc _ _⟩
 ·intro q1 q2 q3 q4 q5 q6 q7 q8 hd HW
  clear hl
  rcases hd with d1 | ⟨d1, d2, d3, d4⟩
  ·skip
   go_enter Tryz.func69, Tryz.ntmps69
   go_wp2
   go_ret
   exact ⟨by rw [HW.out]; rfl, ext_alloc _ _⟩
  ·have d5 : 0 < n := by simpa using d3
   go_enter Tryz.func69, Tryz.ntmps69
   go_wp2
   go_ret
   exact ⟨by rw [HW.out]; rfl, ext_alloc _ _⟩
 ·intro q1 q2 q3 q4 q5 q6 q7 q8 d1 hd HW
  clear hl
  rcases hd with d2 | ⟨d2, d3, d4⟩
  ·skip
   go_enter Tryz.func69, Tryz.ntmps69
   go_wp2
   go_ret
   exact ⟨by rw [HW.out]; rfl, ext_alloc _ _⟩
  ·have d5 : ¬ 0 < n := by simpa using d3
   go_enter Tryz.func69, Tryz.ntmps69
   go_wp2
   go_ret
   exact ⟨by rw [HW.out]; rfl, ext_alloc _ _⟩
end Go.Proofs.YtdmnmfnmaccmoaaGreatDoor
/- Walks: records' Same and Own, the package's and the document's. -/
namespace Go.Proofs.YtdmnmfnmaccmoaaGreatDoor
open Go Go.RowKit
theorem same_ways (P : Prop) (r s : Rec)
  (a1 : (r.kind == s.kind) = false → Hid (rSame r s = false) → P)
  (a2 : (r.kind == s.kind) = true → (r.key == s.key) = false → Hid (rSame r s = false) → P)
  (a3 : (r.kind == s.kind) = true → (r.key == s.key) = true → (r.ver == s.ver) = false → Hid (rSame r s = false) → P)
  (a4 : (r.kind == s.kind) = true → (r.key == s.key) = true → (r.ver == s.ver) = true → Hid (rSame r s = (r.data == s.data)) → P) : P := by
 have H : ∀ k, rSame r s = k → Hid (rSame r s = k) := fun _ h => h
 by_cases k1 : r.kind = s.kind
 ·by_cases k2 : r.key = s.key
  ·by_cases k3 : r.ver = s.ver
   ·exact a4 (by simpa using k1) (by simpa using k2) (by simpa using k3) (H _ (by simp [rSame, k1, k2, k3]))
   ·exact a3 (by simpa using k1) (by simpa using k2) (by simpa using k3) (H _ (by simp [rSame, k3]))
  ·exact a2 (by simpa using k1) (by simpa using k2) (H _ (by simp [rSame, k2]))
 ·exact a1 (by simpa using k1) (H _ (by simp [rSame, k1]))
set_option maxRecDepth 100000 in
set_option maxHeartbeats 2000000 in
theorem same_w {A A' : Option Addr} {n c B n' c' B' : Nat} {r s : Rec} (w : World) (h : By w B A n c r.data) (h' : By w B' A' n' c' s.data) (hB : B ≤ w.heap.size) (hB' : B' ≤ w.heap.size) :
  Calls Tryz.prog 58 #[.agg #[.int .i64 r.kind, .int .i64 r.key, .int .i64 r.ver, .slice A n c], .agg #[.int .i64 s.kind, .int .i64 s.key, .int .i64 s.ver, .slice A' n' c']] w fun e w' => e = .returned (.bool (rSame r s)) ∧ Ext w w' := by
 refine same_ways _ r s ?_ ?_ ?_ ?_
 ·intro q1 HW
  go_enter Tryz.func58, Tryz.ntmps58
  go_wp2
  go_ret
  exact ⟨by rw [HW.out]; rfl, (ext_alloc _ _).alloc (by simp) _⟩
 ·intro q1 q2 HW
  go_enter Tryz.func58, Tryz.ntmps58
  go_wp2
  go_ret
  exact ⟨by rw [HW.out]; rfl, (ext_alloc _ _).alloc (by simp) _⟩
 ·intro q1 q2 q3 HW
  go_enter Tryz.func58, Tryz.ntmps58
  go_wp2
  go_ret
  exact ⟨by rw [HW.out]; rfl, (ext_alloc _ _).alloc (by simp) _⟩
 ·intro q1 q2 q3 HW
  go_enter Tryz.func58, Tryz.ntmps58
  go_wp2_with fail
  refine (equal_w _ (Sl.below h (((Below.refl _ _).alloc hB _).alloc (by simp; omega) _)) (Sl.below h' (((Below.refl _ _).alloc hB' _).alloc (by simp; omega) _))).mono ?_
  rintro e w1 ⟨rfl, m, rfl⟩
  rw [← HW.out]
  go_wp2
  go_ret
  exact ⟨rfl, ext_trans (ext_trans (ext_alloc _ _) (ext_alloc _ _)) (ext_drewN _ _)⟩
def OwnRec (w0 w : World) (v : Value) (r : Rec) : Prop :=
 ∃ A c, v = .agg #[.int .i64 r.kind, .int .i64 r.key, .int .i64 r.ver, .slice A r.data.length c] ∧ w.ownsRow w0.heap.size 5 1 (.slice A r.data.length c) r.data.length (u8s r.data)
set_option maxRecDepth 100000 in
set_option maxHeartbeats 2000000 in
theorem own_w {A : Option Addr} {n c B : Nat} {r : Rec} (w : World) (h : By w B A n c r.data) (hB : B ≤ w.heap.size) (hn : n ≤ blim) :
  Calls Tryz.prog 52 #[.agg #[.int .i64 r.kind, .int .i64 r.key, .int .i64 r.ver, .slice A n c]] w fun e w' => ∃ v, e = .returned v ∧ OwnRec w w' v r ∧ Ext w w' := by
 have hl := h.len
 subst hl
 go_enter Tryz.func52, Tryz.ntmps52
 go_wp2_with fail
 refine (clone_w _ (Sl.below h (((Below.refl _ _).alloc hB _).alloc (by simp; omega) _)) (by simp; omega) hn).mono ?_
 rintro e w1 ⟨v, rfl, hown, he⟩
 obtain ⟨A1, c1, rfl, hs⟩ := own_shape hown
 have b1 : Box w1 w.heap.size _ _ := ((Box.new w _ _ rfl).alloc _).ext he
 have b2 : Box w1 (w.heap.size + 1) _ _ := (Box.new _ _ _ (size_alloc _ _).symm).ext he
 have hsz := he.size
 simp only [size_alloc] at hsz
 have x0 := b1.cell 0 rfl
 have x1 := b1.cell 1 rfl
 have x2 := b1.cell 2 rfl
 have x3 := b1.cell 3 rfl
 have y0 := b2.cell 0 rfl
 have y1 := b2.cell 1 rfl
 have y2 := b2.cell 2 rfl
 have y3 := b2.cell 3 rfl
 have zx := b1.free
 have zy := b2.free
 go_wp2
 ((try simp only [Exit.inBlock, Exit.then]); refine bodyPost_ret (v := ?_) ?resultOf rfl ?_; case resultOf => (rw [results_cell1 rfl]; go_simp; rfl))
 refine ⟨_, rfl, ⟨_, _, rfl, ?_⟩, ?_⟩
 ·simp only [size_alloc] at hown
  refine own_more (base := w.heap.size + 1 + 1) ?_ (by omega)
  (repeat (with_reducible (first | assumption | refine own_set ?_ (by simp <;> omega) _ | refine own_alloc ?_ _)))
 ·have hd := ext_trans (ext_trans (ext_alloc _ _) (ext_alloc _ _)) he
  (repeat (with_reducible (first | assumption | exact Below.refl _ _ | refine Below.setCell ?_ (by simp <;> omega) _ | refine Below.alloc ?_ (by simp <;> omega) _ | refine Below.drew ?_ | refine below_drewN ?_ _)))
end Go.Proofs.YtdmnmfnmaccmoaaGreatDoor
/- Walks: a record's bytes, the package's. -/
namespace Go.Proofs.YtdmnmfnmaccmoaaGreatDoor
open Go Go.RowKit
theorem b8v (x : Int) : u8v (b8 x) = .int .u8 (x % 256) := by
 unfold u8v; rw [b8_toNat]; congr 1; omega
theorem two_s (n : Int) (w : World) (h0 : 0 ≤ n) (h1 : n < 65536) :
  Calls Tryz.prog 78 #[.int .i64 n] w fun e w' => ∃ A c, e = .returned (.slice A 2 c) ∧ Sl w' w'.heap.size 1 A 2 c (u8s (sTwo n)) ∧ Ext w w' := by
 refine (two_w n w h0 h1).mono ?_
 rintro e w' ⟨rfl, rfl⟩
 exact ⟨_, _, rfl, Sl.new _ _ _ _ 1 2 (by simp [sTwo, u8s]) (by unfold maxLen; omega) (by simp), ext_alloc _ _⟩
def slen : Value → Nat
 | .slice _ n _ => n
 | _ => 0
set_option maxRecDepth 100000 in
set_option maxHeartbeats 2000000 in
theorem bytes_w {A : Option Addr} {n c B : Nat} {r : Rec} {k : Int} (w : World) (h : By w B A n c r.data) (hB : B ≤ w.heap.size) (hn : n ≤ 8) (h0 : 0 ≤ r.ver) (h1 : r.ver < 65536) :
  Calls Tryz.prog 51 #[.agg #[.int .i64 r.kind, .int .i64 r.key, .int .i64 r.ver, .slice A n c], .int .i64 k] w fun e w' => ∃ v, e = .returned v ∧ w'.ownsRow w.heap.size 5 1 v 16 (u8s (rBytes r k)) ∧ Ext w w' := by
 have hl := h.len
 have q1 : (n : Int) % 256 = (n : Int) := by omega
 go_enter Tryz.func51, Tryz.ntmps51
 go_wp2_with fail
 obtain ⟨W, hW⟩ : ∃ W, W = (w.alloc (.cells #[.int .i64 r.kind, .int .i64 r.key, .int .i64 r.ver, .slice A n c] 54)).alloc (.cells #[.int .u8 (r.kind % 256), .int .u8 (k % 256), .int .u8 (r.key % 256)] 5) := ⟨_, rfl⟩
 rw [← hW]
 have bx : Box W w.heap.size 54 #[.int .i64 r.kind, .int .i64 r.key, .int .i64 r.ver, .slice A n c] := by rw [hW]; exact (Box.new w _ _ rfl).alloc _
 have he : Ext w W := by rw [hW]; exact ext_trans (ext_alloc _ _) (ext_alloc _ _)
 have hW2 : W.heap.size = w.heap.size + 1 + 1 := by rw [hW]; simp
 have hp : W.ownsRow (w.heap.size + 1) 5 1 (.slice (some ⟨w.heap.size + 1, 0, none⟩) 3 3) 3 (u8s [b8 r.kind, b8 k, b8 r.key]) := by
  rw [hW]
  have := own_lit (w.alloc (.cells #[.int .i64 r.kind, .int .i64 r.key, .int .i64 r.ver, .slice A n c] 54)) [.int .u8 (r.kind % 256), .int .u8 (k % 256), .int .u8 (r.key % 256)] 5 (base := w.heap.size + 1) (size := 1) (n := 3) (by simp) rfl (by unfold maxLen; omega)
  simpa [u8s, b8v] using this
 clear hW
 refine wp_region_below (w.heap.size + 1) 12 [0, 1, 2, 5, 6, 7, 8, 11] false rfl (by kernel_rfl) (by kernel_rfl) ?_
 have hd : Below (w.heap.size + 1) W W.drew := (Below.refl _ _).drew
 have hz := hd.size
 have hp : W.drew.ownsRow (w.heap.size + 1) _ _ _ _ _ := hp
 apply mixF 0 (by kernel_rfl) (by rfl) (by rfl)
 ·(intro w' hx; go_simp <;> with_reducible rfl)
 simp only [pA, pB, pC, pD]
 apply mixF 1 (by kernel_rfl) (by rfl) (by rfl)
 ·(intro w' hx; go_simp <;> with_reducible rfl)
 simp only [pA, pB, pC, pD]
 apply mixF 2 (by kernel_rfl) (by rfl) (by rfl)
 ·(intro w' hx; have q := (bx.below (hd.trans hx) (by omega)).cell 2 rfl; go_simp <;> with_reducible rfl)
 simp only [pA, pB, pC, pD]
 apply mixF 5 (by kernel_rfl) (by rfl) (by rfl)
 ·(intro w' hx; go_simp <;> with_reducible rfl)
 simp only [pA, pB, pC, pD]
 apply mixF 6 (by kernel_rfl) (by rfl) (by rfl)
 ·(intro w' hx; have q := (bx.below (hd.trans hx) (by omega)).cell 3 rfl; go_simp <;> with_reducible rfl)
 simp only [pA, pB, pC, pD]
 apply mixF 7 (by kernel_rfl) (by rfl) (by rfl)
 ·(intro w' hx; go_simp <;> with_reducible rfl)
 simp only [pA, pB, pC, pD]
 apply mixF 8 (by kernel_rfl) (by rfl) (by rfl)
 ·(intro w' hx; go_simp <;> with_reducible rfl)
 simp only [pA, pB, pC, pD]
 refine mixS2 3 9 (by kernel_rfl) (by kernel_rfl) (by rfl) (by rfl) (by rfl) (by rfl) (fun K hK => ?_) (fun K hK => ?_)
 ·skip
  go_wp2_with (go_at_call 78; refine (two_s r.ver _ h0 h1).mono ?_; rintro e w1 ⟨A1, c1, rfl, hs1, he1⟩)
  refine hK.out _ _ (he1.mono (by omega)) ?_
  clear hK K
  try simp only [pA, pB, pC, pD]
  have hd' := he1.mono (B' := w.heap.size + 1) (by omega)
  have hp := own_ext hp he1
  have hd := hd.trans hd'
  have hz := hd.size
  have hz1 := he1.size
  clear hd'
  refine mixS2 4 9 (by kernel_rfl) (by kernel_rfl) (by rfl) (by rfl) (by rfl) (by rfl) (fun K hK => ?_) (fun K hK => ?_)
  ·skip
   refine wp_app_u8 (.tmp 15) (.tmp 18) rfl (w.heap.size + 1) (.slice (some ⟨w.heap.size + 1, 0, none⟩) 3 3) 3 _ rfl hp _ A1 2 c1 _ rfl hs1 (u8s_one _) (by rw [blim_def]; omega) (by omega) ?_
   intro v2 w2 hp2 hg2 hb2 hat2
   refine hK.out _ _ hb2 ?_
   clear hK K
   try simp only [pA, pB, pC, pD]
   have hp := hp2
   have hd := hd.trans hb2
   have hz := hd.size
   clear hp2
   refine mixS 9 (by kernel_rfl) (by kernel_rfl) (by rfl) (by rfl) (fun K hK => ?_)
   go_wp2
   refine hK.out _ _ ((ext_alloc _ _).mono (by omega)) ?_
   clear hK K
   try simp only [pA, pB, pC, pD]
   obtain ⟨w4, hw4⟩ : ∃ w4, w4 = w2.alloc (.cells #[.int .u8 (n : Int)] 5) := ⟨_, rfl⟩
   first | rw [← hw4] | rw [show (W.alloc (.cells #[.int .u8 (n : Int)] 5)).drew = w4 by rw [hw4]; rfl]
   have he4 : Ext w2 w4 := by rw [hw4]; exact ext_alloc _ _
   have hs4 : Sl w4 w4.heap.size 1 (some ⟨w2.heap.size, 0, none⟩) 1 1 [.int .u8 (n : Int)] := by rw [hw4]; exact Sl.new _ _ _ _ 1 1 rfl (by unfold maxLen; omega) (by simp)
   have hp := own_ext hp he4
   have hd := hd.trans (he4.mono (B' := w.heap.size + 1) (by omega))
   have hz := hd.size
   clear hw4
   refine mixS 10 (by kernel_rfl) (by kernel_rfl) (by rfl) (by rfl) (fun K hK => ?_)
   refine wp_app_u8 (.tmp 19) (.tmp 24) rfl (w.heap.size + 1) _ 5 _ rfl hp _ _ 1 1 [.int .u8 (n : Int)] rfl hs4 (by simp [Value.oneCell']) (by rw [blim_def]; omega) (by omega) ?_
   intro v5 w5 hp5 hg5 hb5 hat5
   refine hK.out _ _ hb5 ?_
   clear hK K
   try simp only [pA, pB, pC, pD]
   have hd := hd.trans hb5
   have hz := hd.size
   apply mixF 11 (by kernel_rfl) (by rfl) (by rfl)
   ·(intro w' hx; go_simp <;> with_reducible rfl)
   simp only [pA, pB, pC, pD]
   refine mixEnd (by kernel_rfl) ?_
   have bx := (bx.below hd (by omega)).cell 3 rfl
   clear hs4 hs1 hg2 hb2 hat2 hg5 hb5 hat5 he4 he1
   go_wp2_with (at_builtin; refine app_u8 rfl (.tmp 26) (.tmp 28) rfl (w.heap.size + 1) v5 6 _ rfl hp5 B A n c (u8s r.data) rfl (Sl.below h ((he.mono hB).trans (hd.mono (by omega)))) (u8s_one _) (by rw [blim_def]; omega) (by omega) ?_; intro v6 w6 hp6 hg6 hb6 hat6)
   have hd := hd.trans hb6
   obtain ⟨pre, hpre⟩ : ∃ pre, pre = [b8 r.kind, b8 k, b8 r.key] ++ sTwo r.ver ++ [b8 n] ++ r.data := ⟨_, rfl⟩
   have hp6 : w6.ownsRow (w.heap.size + 1) 5 1 v6 (6 + n) (u8s pre) := by
    have e : u8s [b8 (n : Int)] = [.int .u8 (n : Int)] := by simp [u8s, b8v, q1]
    rw [hpre, u8s_append, u8s_append, u8s_append, e]
    exact hp6
   have hlp : pre.length = 6 + n := by have := hp6.1; rw [u8s_length] at this; omega
   have Hpre := Lib.hid hpre
   clear hpre hg6 hb6 hat6 hp5 bx
   obtain ⟨A6, c6, rfl, hs6⟩ := own_shape hp6
   go_loopw [5] (fun v wr => ∃ A m c, v = .slice A m c ∧ 6 + n ≤ m ∧ m ≤ 14 ∧ wr.ownsRow (w.heap.size + 1) 5 1 v m (u8s (pre ++ List.replicate (m - (6 + n)) 0)) ∧ Below (w.heap.size + 1) W wr) (fun v _ => 14 - slen v)
   case atStart => exact ⟨_, _, _, rfl, Nat.le_refl _, by omega, by simpa using hp6, hd⟩
   case round =>
    obtain ⟨Ar, m, cr, rfl, hm0, hm1, hown, hdr⟩ := hrel
    by_cases hlt : m < 14
    ·have i1 : (m : Int) < 14 := by omega
     have hzr := hdr.size
     go_wp2_with (at_builtin; refine app_u8 rfl (.tmp 33) (.tmp 34) rfl (w.heap.size + 1) _ m _ rfl (own_alloc hown _) _ _ 1 1 [.int .u8 0] rfl (Sl.new _ _ _ _ 1 1 rfl (by unfold maxLen; omega) (Nat.lt_succ_self _)) (by simp [Value.oneCell']) (by rw [blim_def]; omega) (by rw [size_alloc]; omega) ?_; intro v7 w7 hp7 hg7 hb7 hat7)
     obtain ⟨A7, c7, rfl, hs7⟩ := own_shape hp7
     go_roundw
     case rel =>
      refine ⟨_, _, _, rfl, by omega, by omega, ?_, (hdr.alloc (by omega) _).trans hb7⟩
      have e : u8s (pre ++ List.replicate (m + 1 - (6 + n)) 0) = u8s (pre ++ List.replicate (m - (6 + n)) 0) ++ [.int .u8 0] := by
       have : m + 1 - (6 + n) = (m - (6 + n)) + 1 := by omega
       rw [this, List.replicate_succ', ← List.append_assoc, u8s_append _ [0]]
       rfl
      rw [e]
      exact hp7
     case measure => simp [slen]; omega
    ·have hm : m = 14 := by omega
     subst hm
     go_wp2_with fail
     have hzr := hdr.size
     refine (seal_w _ _ _ _ _ _ (by_own hown) (Nat.le_refl _) (by rw [blim_def]; omega)).mono ?_
     rintro e w8 ⟨v8, rfl, hown8, he8⟩
     go_wp2
     go_ret
     have e1 : pre ++ List.replicate (14 - (6 + n)) 0 = rBody r k := by
      rw [Hpre.out]
      unfold rBody
      have : 14 - (6 + n) = 8 - r.data.length := by omega
      rw [this, hl]
     rw [e1] at hown8
     exact ⟨v8, rfl, own_more hown8 (by omega), he.trans ((hdr.mono (by omega)).trans (he8.mono (by omega)))⟩
  ·skip
   go_wp2
   refine hK.out _ _ ((ext_alloc _ _).mono (by omega)) ?_
   clear hK K
   try simp only [pA, pB, pC, pD]
   obtain ⟨w4, hw4⟩ : ∃ w4, w4 = w1.alloc (.cells #[.int .u8 (n : Int)] 5) := ⟨_, rfl⟩
   first | rw [← hw4] | rw [show (W.alloc (.cells #[.int .u8 (n : Int)] 5)).drew = w4 by rw [hw4]; rfl]
   have he4 : Ext w1 w4 := by rw [hw4]; exact ext_alloc _ _
   have hs4 : Sl w4 w4.heap.size 1 (some ⟨w1.heap.size, 0, none⟩) 1 1 [.int .u8 (n : Int)] := by rw [hw4]; exact Sl.new _ _ _ _ 1 1 rfl (by unfold maxLen; omega) (by simp)
   have hp := own_ext hp he4
   have hd := hd.trans (he4.mono (B' := w.heap.size + 1) (by omega))
   have hz := hd.size
   clear hw4
   refine mixS 4 (by kernel_rfl) (by kernel_rfl) (by rfl) (by rfl) (fun K hK => ?_)
   have hs1 := Sl.below hs1 he4
   refine wp_app_u8 (.tmp 15) (.tmp 18) rfl (w.heap.size + 1) (.slice (some ⟨w.heap.size + 1, 0, none⟩) 3 3) 3 _ rfl hp _ A1 2 c1 _ rfl hs1 (u8s_one _) (by rw [blim_def]; omega) (by omega) ?_
   intro v2 w2 hp2 hg2 hb2 hat2
   refine hK.out _ _ hb2 ?_
   clear hK K
   try simp only [pA, pB, pC, pD]
   have hp := hp2
   have hd := hd.trans hb2
   have hz := hd.size
   clear hp2
   have hs4 := Sl.grown hs4 (Nat.le_refl _) hg2 (by intro ad e1 e2; injection e1 with e1; subst e1; simp [Value.ownBlock] at e2 <;> omega)
   refine mixS 10 (by kernel_rfl) (by kernel_rfl) (by rfl) (by rfl) (fun K hK => ?_)
   refine wp_app_u8 (.tmp 19) (.tmp 24) rfl (w.heap.size + 1) _ 5 _ rfl hp _ _ 1 1 [.int .u8 (n : Int)] rfl hs4 (by simp [Value.oneCell']) (by rw [blim_def]; omega) (by omega) ?_
   intro v5 w5 hp5 hg5 hb5 hat5
   refine hK.out _ _ hb5 ?_
   clear hK K
   try simp only [pA, pB, pC, pD]
   have hd := hd.trans hb5
   have hz := hd.size
   apply mixF 11 (by kernel_rfl) (by rfl) (by rfl)
   ·(intro w' hx; go_simp <;> with_reducible rfl)
   simp only [pA, pB, pC, pD]
   refine mixEnd (by kernel_rfl) ?_
   have bx := (bx.below hd (by omega)).cell 3 rfl
   clear hs4 hs1 hg2 hb2 hat2 hg5 hb5 hat5 he4 he1
   go_wp2_with (at_builtin; refine app_u8 rfl (.tmp 26) (.tmp 28) rfl (w.heap.size + 1) v5 6 _ rfl hp5 B A n c (u8s r.data) rfl (Sl.below h ((he.mono hB).trans (hd.mono (by omega)))) (u8s_one _) (by rw [blim_def]; omega) (by omega) ?_; intro v6 w6 hp6 hg6 hb6 hat6)
   have hd := hd.trans hb6
   obtain ⟨pre, hpre⟩ : ∃ pre, pre = [b8 r.kind, b8 k, b8 r.key] ++ sTwo r.ver ++ [b8 n] ++ r.data := ⟨_, rfl⟩
   have hp6 : w6.ownsRow (w.heap.size + 1) 5 1 v6 (6 + n) (u8s pre) := by
    have e : u8s [b8 (n : Int)] = [.int .u8 (n : Int)] := by simp [u8s, b8v, q1]
    rw [hpre, u8s_append, u8s_append, u8s_append, e]
    exact hp6
   have hlp : pre.length = 6 + n := by have := hp6.1; rw [u8s_length] at this; omega
   have Hpre := Lib.hid hpre
   clear hpre hg6 hb6 hat6 hp5 bx
   obtain ⟨A6, c6, rfl, hs6⟩ := own_shape hp6
   go_loopw [5] (fun v wr => ∃ A m c, v = .slice A m c ∧ 6 + n ≤ m ∧ m ≤ 14 ∧ wr.ownsRow (w.heap.size + 1) 5 1 v m (u8s (pre ++ List.replicate (m - (6 + n)) 0)) ∧ Below (w.heap.size + 1) W wr) (fun v _ => 14 - slen v)
   case atStart => exact ⟨_, _, _, rfl, Nat.le_refl _, by omega, by simpa using hp6, hd⟩
   case round =>
    obtain ⟨Ar, m, cr, rfl, hm0, hm1, hown, hdr⟩ := hrel
    by_cases hlt : m < 14
    ·have i1 : (m : Int) < 14 := by omega
     have hzr := hdr.size
     go_wp2_with (at_builtin; refine app_u8 rfl (.tmp 33) (.tmp 34) rfl (w.heap.size + 1) _ m _ rfl (own_alloc hown _) _ _ 1 1 [.int .u8 0] rfl (Sl.new _ _ _ _ 1 1 rfl (by unfold maxLen; omega) (Nat.lt_succ_self _)) (by simp [Value.oneCell']) (by rw [blim_def]; omega) (by rw [size_alloc]; omega) ?_; intro v7 w7 hp7 hg7 hb7 hat7)
     obtain ⟨A7, c7, rfl, hs7⟩ := own_shape hp7
     go_roundw
     case rel =>
      refine ⟨_, _, _, rfl, by omega, by omega, ?_, (hdr.alloc (by omega) _).trans hb7⟩
      have e : u8s (pre ++ List.replicate (m + 1 - (6 + n)) 0) = u8s (pre ++ List.replicate (m - (6 + n)) 0) ++ [.int .u8 0] := by
       have : m + 1 - (6 + n) = (m - (6 + n)) + 1 := by omega
       rw [this, List.replicate_succ', ← List.append_assoc, u8s_append _ [0]]
       rfl
      rw [e]
      exact hp7
     case measure => simp [slen]; omega
    ·have hm : m = 14 := by omega
     subst hm
     go_wp2_with fail
     have hzr := hdr.size
     refine (seal_w _ _ _ _ _ _ (by_own hown) (Nat.le_refl _) (by rw [blim_def]; omega)).mono ?_
     rintro e w8 ⟨v8, rfl, hown8, he8⟩
     go_wp2
     go_ret
     have e1 : pre ++ List.replicate (14 - (6 + n)) 0 = rBody r k := by
      rw [Hpre.out]
      unfold rBody
      have : 14 - (6 + n) = 8 - r.data.length := by omega
      rw [this, hl]
     rw [e1] at hown8
     exact ⟨v8, rfl, own_more hown8 (by omega), he.trans ((hdr.mono (by omega)).trans (he8.mono (by omega)))⟩
 ·skip
  go_wp2
  refine hK.out _ _ ((ext_alloc _ _).mono (by omega)) ?_
  clear hK K
  try simp only [pA, pB, pC, pD]
  obtain ⟨w4, hw4⟩ : ∃ w4, w4 = W.drew.alloc (.cells #[.int .u8 (n : Int)] 5) := ⟨_, rfl⟩
  first | rw [← hw4] | rw [show (W.alloc (.cells #[.int .u8 (n : Int)] 5)).drew = w4 by rw [hw4]; rfl]
  have he4 : Ext W.drew w4 := by rw [hw4]; exact ext_alloc _ _
  have hs4 : Sl w4 w4.heap.size 1 (some ⟨W.heap.size, 0, none⟩) 1 1 [.int .u8 (n : Int)] := by rw [hw4]; exact Sl.new _ _ _ _ 1 1 rfl (by unfold maxLen; omega) (by simp)
  have hp := own_ext hp he4
  have hd := hd.trans (he4.mono (B' := w.heap.size + 1) (by omega))
  have hz := hd.size
  clear hw4
  rw [hW2] at hs4
  refine mixS 3 (by kernel_rfl) (by kernel_rfl) (by rfl) (by rfl) (fun K hK => ?_)
  go_wp2_with (go_at_call 78; refine (two_s r.ver _ h0 h1).mono ?_; rintro e w1 ⟨A1, c1, rfl, hs1, he1⟩)
  refine hK.out _ _ (he1.mono (by omega)) ?_
  clear hK K
  try simp only [pA, pB, pC, pD]
  have hd' := he1.mono (B' := w.heap.size + 1) (by omega)
  have hp := own_ext hp he1
  have hd := hd.trans hd'
  have hz := hd.size
  have hz1 := he1.size
  clear hd'
  have hs4 := Sl.below hs4 he1
  refine mixS 4 (by kernel_rfl) (by kernel_rfl) (by rfl) (by rfl) (fun K hK => ?_)
  refine wp_app_u8 (.tmp 15) (.tmp 18) rfl (w.heap.size + 1) (.slice (some ⟨w.heap.size + 1, 0, none⟩) 3 3) 3 _ rfl hp _ A1 2 c1 _ rfl hs1 (u8s_one _) (by rw [blim_def]; omega) (by omega) ?_
  intro v2 w2 hp2 hg2 hb2 hat2
  refine hK.out _ _ hb2 ?_
  clear hK K
  try simp only [pA, pB, pC, pD]
  have hp := hp2
  have hd := hd.trans hb2
  have hz := hd.size
  clear hp2
  have hs4 := Sl.grown hs4 (by omega) hg2 (by intro ad e1 e2; injection e1 with e1; subst e1; simp [Value.ownBlock] at e2 <;> omega)
  refine mixS 10 (by kernel_rfl) (by kernel_rfl) (by rfl) (by rfl) (fun K hK => ?_)
  refine wp_app_u8 (.tmp 19) (.tmp 24) rfl (w.heap.size + 1) _ 5 _ rfl hp _ _ 1 1 [.int .u8 (n : Int)] rfl hs4 (by simp [Value.oneCell']) (by rw [blim_def]; omega) (by omega) ?_
  intro v5 w5 hp5 hg5 hb5 hat5
  refine hK.out _ _ hb5 ?_
  clear hK K
  try simp only [pA, pB, pC, pD]
  have hd := hd.trans hb5
  have hz := hd.size
  apply mixF 11 (by kernel_rfl) (by rfl) (by rfl)
  ·(intro w' hx; go_simp <;> with_reducible rfl)
  simp only [pA, pB, pC, pD]
  refine mixEnd (by kernel_rfl) ?_
  have bx := (bx.below hd (by omega)).cell 3 rfl
  clear hs4 hs1 hg2 hb2 hat2 hg5 hb5 hat5 he4 he1
  go_wp2_with (at_builtin; refine app_u8 rfl (.tmp 26) (.tmp 28) rfl (w.heap.size + 1) v5 6 _ rfl hp5 B A n c (u8s r.data) rfl (Sl.below h ((he.mono hB).trans (hd.mono (by omega)))) (u8s_one _) (by rw [blim_def]; omega) (by omega) ?_; intro v6 w6 hp6 hg6 hb6 hat6)
  have hd := hd.trans hb6
  obtain ⟨pre, hpre⟩ : ∃ pre, pre = [b8 r.kind, b8 k, b8 r.key] ++ sTwo r.ver ++ [b8 n] ++ r.data := ⟨_, rfl⟩
  have hp6 : w6.ownsRow (w.heap.size + 1) 5 1 v6 (6 + n) (u8s pre) := by
   have e : u8s [b8 (n : Int)] = [.int .u8 (n : Int)] := by simp [u8s, b8v, q1]
   rw [hpre, u8s_append, u8s_append, u8s_append, e]
   exact hp6
  have hlp : pre.length = 6 + n := by have := hp6.1; rw [u8s_length] at this; omega
  have Hpre := Lib.hid hpre
  clear hpre hg6 hb6 hat6 hp5 bx
  obtain ⟨A6, c6, rfl, hs6⟩ := own_shape hp6
  go_loopw [5] (fun v wr => ∃ A m c, v = .slice A m c ∧ 6 + n ≤ m ∧ m ≤ 14 ∧ wr.ownsRow (w.heap.size + 1) 5 1 v m (u8s (pre ++ List.replicate (m - (6 + n)) 0)) ∧ Below (w.heap.size + 1) W wr) (fun v _ => 14 - slen v)
  case atStart => exact ⟨_, _, _, rfl, Nat.le_refl _, by omega, by simpa using hp6, hd⟩
  case round =>
   obtain ⟨Ar, m, cr, rfl, hm0, hm1, hown, hdr⟩ := hrel
   by_cases hlt : m < 14
   ·have i1 : (m : Int) < 14 := by omega
    have hzr := hdr.size
    go_wp2_with (at_builtin; refine app_u8 rfl (.tmp 33) (.tmp 34) rfl (w.heap.size + 1) _ m _ rfl (own_alloc hown _) _ _ 1 1 [.int .u8 0] rfl (Sl.new _ _ _ _ 1 1 rfl (by unfold maxLen; omega) (Nat.lt_succ_self _)) (by simp [Value.oneCell']) (by rw [blim_def]; omega) (by rw [size_alloc]; omega) ?_; intro v7 w7 hp7 hg7 hb7 hat7)
    obtain ⟨A7, c7, rfl, hs7⟩ := own_shape hp7
    go_roundw
    case rel =>
     refine ⟨_, _, _, rfl, by omega, by omega, ?_, (hdr.alloc (by omega) _).trans hb7⟩
     have e : u8s (pre ++ List.replicate (m + 1 - (6 + n)) 0) = u8s (pre ++ List.replicate (m - (6 + n)) 0) ++ [.int .u8 0] := by
      have : m + 1 - (6 + n) = (m - (6 + n)) + 1 := by omega
      rw [this, List.replicate_succ', ← List.append_assoc, u8s_append _ [0]]
      rfl
     rw [e]
     exact hp7
    case measure => simp [slen]; omega
   ·have hm : m = 14 := by omega
    subst hm
    go_wp2_with fail
    have hzr := hdr.size
    refine (seal_w _ _ _ _ _ _ (by_own hown) (Nat.le_refl _) (by rw [blim_def]; omega)).mono ?_
    rintro e w8 ⟨v8, rfl, hown8, he8⟩
    go_wp2
    go_ret
    have e1 : pre ++ List.replicate (14 - (6 + n)) 0 = rBody r k := by
     rw [Hpre.out]
     unfold rBody
     have : 14 - (6 + n) = 8 - r.data.length := by omega
     rw [this, hl]
    rw [e1] at hown8
    exact ⟨v8, rfl, own_more hown8 (by omega), he.trans ((hdr.mono (by omega)).trans (he8.mono (by omega)))⟩
end Go.Proofs.YtdmnmfnmaccmoaaGreatDoor
/- Plain: disks (chapter 3). -/
namespace Go.Proofs.YtdmnmfnmaccmoaaGreatDoor
def dFree : Dsk := ⟨(List.range 12).map fun i : Nat => rBytes rFree (i : Int), []⟩
def dLast (l : List (Int × List UInt8)) (k : Int) (b : List UInt8) : List UInt8 := l.foldl (fun b w => if w.1 = k then w.2 else b) b
def dGet (d : Dsk) (k : Int) : List UInt8 × Int :=
 if k < 0 ∨ (d.blocks.length : Int) ≤ k then ([], 3) else (dLast d.late k (d.blocks.getD k.toNat []), 0)
def dPut (d : Dsk) (k : Int) (b : List UInt8) : Dsk × Int :=
 if k < 0 ∨ (d.blocks.length : Int) ≤ k then (d, 3)
 else if b.length ≠ 16 then (d, 2)
 else (⟨d.blocks, d.late ++ [(k, b)]⟩, 0)
def dBit (bits : Int) (i : Nat) : Bool := decide (bits / 2 ^ i % 2 = 1)
def kTo (l : List (Int × List UInt8)) (bits : Int) (bs : List (List UInt8)) : Nat → List (List UInt8)
 | 0 => bs
 | k + 1 => if k < 60 ∧ dBit bits k = true then (kTo l bits bs k).set (l.getD k (0, [])).1.toNat (l.getD k (0, [])).2 else kTo l bits bs k
def dKeep (d : Dsk) (bits : Int) : Dsk := ⟨kTo d.late bits d.blocks d.late.length, []⟩
def fTo (l : List (Int × List UInt8)) (bs : List (List UInt8)) : Nat → List (List UInt8)
 | 0 => bs
 | k + 1 => (fTo l bs k).set (l.getD k (0, [])).1.toNat (l.getD k (0, [])).2
def dFlush (d : Dsk) : Dsk := ⟨fTo d.late d.blocks d.late.length, []⟩
def dSpoil (d : Dsk) (k n y : Int) : Dsk :=
 if 0 ≤ k ∧ k < d.blocks.length ∧ 0 ≤ n ∧ n < (d.blocks.getD k.toNat []).length
 then ⟨d.blocks.set k.toNat ((d.blocks.getD k.toNat []).set n.toNat ((d.blocks.getD k.toNat []).getD n.toNat 0 ^^^ b8 y)), d.late⟩ else d
def LateIn (d : Dsk) : Prop := ∀ i, i < d.late.length → 0 ≤ (d.late.getD i (0, [])).1 ∧ (d.late.getD i (0, [])).1 < d.blocks.length
theorem kTo_length (l : List (Int × List UInt8)) (bits : Int) (bs : List (List UInt8)) : ∀ k, (kTo l bits bs k).length = bs.length
 | 0 => rfl
 | k + 1 => by
  unfold kTo
  split
  ·rw [List.length_set, kTo_length l bits bs k]
  ·exact kTo_length l bits bs k
theorem fTo_length (l : List (Int × List UInt8)) (bs : List (List UInt8)) : ∀ k, (fTo l bs k).length = bs.length
 | 0 => rfl
 | k + 1 => by unfold fTo; rw [List.length_set, fTo_length l bs k]
theorem dLast_nil (k : Int) (b : List UInt8) : dLast [] k b = b := rfl
theorem dLast_snoc (l : List (Int × List UInt8)) (w : Int × List UInt8) (k : Int) (b : List UInt8) : dLast (l ++ [w]) k b = if w.1 = k then w.2 else dLast l k b := by
 unfold dLast
 rw [List.foldl_append]
 rfl
theorem take_succ_getD' {α : Type} (dd : α) (l : List α) (k : Nat) (hk : k < l.length) : l.take (k + 1) = l.take k ++ [l.getD k dd] := by
 rw [List.take_succ_eq_append_getElem hk, List.getD_eq_getElem?_getD, List.getElem?_eq_getElem hk]
 rfl
theorem dLast_take (l : List (Int × List UInt8)) (k : Nat) (hk : k < l.length) (j : Int) (b : List UInt8) :
  dLast (l.take (k + 1)) j b = if (l.getD k (0, [])).1 = j then (l.getD k (0, [])).2 else dLast (l.take k) j b := by
 rw [take_succ_getD' (0, []) l k hk, dLast_snoc]
theorem getD_set {α : Type} (d : α) (l : List α) (i j : Nat) (x : α) : (l.set i x).getD j d = if i = j ∧ i < l.length then x else l.getD j d := by
 rw [List.getD_eq_getElem?_getD, List.getElem?_set]
 by_cases h : i = j
 ·subst h
  by_cases hl : i < l.length
  ·simp [hl]
  ·simp [hl, List.getD_eq_getElem?_getD]
 ·simp [h, List.getD_eq_getElem?_getD]
theorem fTo_getD (l : List (Int × List UInt8)) (bs : List (List UInt8)) (hin : ∀ i, i < l.length → 0 ≤ (l.getD i (0, [])).1 ∧ (l.getD i (0, [])).1 < bs.length) (j : Nat) :
  ∀ k, k ≤ l.length → (fTo l bs k).getD j [] = if j < bs.length then dLast (l.take k) j (bs.getD j []) else []
 | 0, _ => by
  simp only [fTo, List.take_zero, dLast_nil]
  split
  ·rfl
  ·rename_i h; rw [List.getD_eq_getElem?_getD, List.getElem?_eq_none (by omega)]; rfl
 | k + 1, hk => by
  have ih := fTo_getD l bs hin j k (by omega)
  have h := hin k (by omega)
  unfold fTo
  rw [getD_set, fTo_length, dLast_take l k (by omega), ih]
  by_cases hj : j < bs.length
  ·simp only [hj, if_true]
   by_cases e : (l.getD k (0, [])).1 = (j : Int)
   ·rw [if_pos ⟨by omega, by omega⟩, if_pos e]
   ·rw [if_neg (by omega), if_neg e]
  ·simp only [hj, if_false]
   rw [if_neg (by omega)]
theorem list_ext_getD {α : Type} (d : α) {l m : List α} (hl : l.length = m.length) (h : ∀ i, i < l.length → l.getD i d = m.getD i d) : l = m := by
 refine List.ext_getElem hl fun i h1 h2 => ?_
 have := h i h1
 rw [List.getD_eq_getElem?_getD, List.getD_eq_getElem?_getD, List.getElem?_eq_getElem h1, List.getElem?_eq_getElem h2] at this
 exact this
theorem dFlush_get (d : Dsk) (h : LateIn d) (j : Nat) (hj : j < d.blocks.length) : (dFlush d).blocks.getD j [] = dLast d.late j (d.blocks.getD j []) := by
 show (fTo d.late d.blocks d.late.length).getD j [] = _
 rw [fTo_getD d.late d.blocks h j _ (Nat.le_refl _), if_pos hj, List.take_length]
theorem dKeep_zero (d : Dsk) : dKeep d 0 = ⟨d.blocks, []⟩ := by
 have : ∀ k, kTo d.late 0 d.blocks k = d.blocks := by
  intro k
  induction k with
  | zero => rfl
  | succ k ih =>
   unfold kTo
   rw [if_neg (by simp [dBit]), ih]
 unfold dKeep
 rw [this]
theorem kTo_some (l : List (Int × List UInt8)) (bits : Int) (bs : List (List UInt8)) (hin : ∀ i, i < l.length → 0 ≤ (l.getD i (0, [])).1 ∧ (l.getD i (0, [])).1 < bs.length) (j : Nat) :
  ∀ k, k ≤ l.length → (kTo l bits bs k).getD j [] = bs.getD j [] ∨ ∃ i, i < l.length ∧ (l.getD i (0, [])).1 = (j : Int) ∧ (l.getD i (0, [])).2 = (kTo l bits bs k).getD j []
 | 0, _ => .inl rfl
 | k + 1, hk => by
  have ih := kTo_some l bits bs hin j k (by omega)
  have h := hin k (by omega)
  unfold kTo
  split
  ·rw [getD_set, kTo_length]
   by_cases e : (l.getD k (0, [])).1.toNat = j ∧ (l.getD k (0, [])).1.toNat < bs.length
   ·rw [if_pos e]
    exact .inr ⟨k, by omega, by omega, rfl⟩
   ·rw [if_neg e]
    exact ih
  ·exact ih
theorem LateIn.put {d : Dsk} (h : LateIn d) {k : Int} {b : List UInt8} (h0 : 0 ≤ k) (h1 : k < d.blocks.length) : LateIn ⟨d.blocks, d.late ++ [(k, b)]⟩ := by
 intro i hi
 simp only [List.length_append, List.length_cons, List.length_nil] at hi
 simp only [List.getD_eq_getElem?_getD]
 rcases Nat.lt_or_ge i d.late.length with hl | hl
 ·rw [List.getElem?_append_left hl]
  have := h i hl
  simpa [List.getD_eq_getElem?_getD] using this
 ·have e : i = d.late.length := by omega
  subst e
  rw [List.getElem?_append_right (Nat.le_refl _), Nat.sub_self]
  exact ⟨h0, h1⟩
theorem dGet_put (d : Dsk) (k : Int) (b : List UInt8) (h0 : 0 ≤ k) (h1 : k < d.blocks.length) (j : Int) :
  dGet ⟨d.blocks, d.late ++ [(k, b)]⟩ j = if j = k then (b, 0) else dGet d j := by
 unfold dGet
 simp only [dLast_snoc]
 by_cases e : j = k
 ·subst e
  rw [if_neg (by omega), if_pos rfl, if_pos rfl]
 ·rw [if_neg e]
  by_cases hj : j < 0 ∨ (d.blocks.length : Int) ≤ j
  ·rw [if_pos hj, if_pos hj]
  ·rw [if_neg hj, if_neg hj, if_neg (fun e' => e e'.symm)]
theorem dGet_flush (d : Dsk) (h : LateIn d) (j : Int) : dGet (dFlush d) j = dGet d j := by
 unfold dGet
 have hl : (dFlush d).blocks.length = d.blocks.length := fTo_length _ _ _
 rw [hl]
 split
 ·rfl
 ·rename_i hj
  have := dFlush_get d h j.toNat (by omega)
  rw [show (dFlush d).late = [] from rfl, dLast_nil, this, show ((j.toNat : Nat) : Int) = j by omega]
end Go.Proofs.YtdmnmfnmaccmoaaGreatDoor
/- Walks: a new disk, the package's. -/
namespace Go.Proofs.YtdmnmfnmaccmoaaGreatDoor
open Go Go.RowKit
def OwnDsk (w0 w : World) (v : Value) (d : Dsk) : Prop := ∃ b l, v = .agg #[b, l] ∧ OwnBlks w w0.heap.size 0 b d.blocks ∧ OwnLats w w0.heap.size 0 l d.late
theorem range_take (k : Nat) (hk : k < 12) : ((List.range 12).map fun i : Nat => rBytes rFree (i : Int)).take (k + 1) = (((List.range 12).map fun i : Nat => rBytes rFree (i : Int)).take k) ++ [rBytes rFree (k : Int)] := by
 rw [List.take_succ_eq_append_getElem (by simpa using hk)]
 simp
set_option maxRecDepth 100000 in
set_option maxHeartbeats 2000000 in
theorem new_w (w : World) : Calls Tryz.prog 26 #[] w fun e w' => ∃ v, e = .returned v ∧ OwnDsk w w' v dFree ∧ Ext w w' := by
 go_enter Tryz.func26, Tryz.ntmps26
 go_wp2_with fail
 obtain ⟨W, hW⟩ : ∃ W, W = (w.alloc (.cells #[.slice none 0 0, .slice none 0 0] 27)).alloc (.cells #[.slice none 0 0, .slice none 0 0] 27) := ⟨_, rfl⟩
 rw [← hW]
 have bR : Box W w.heap.size 27 #[.slice none 0 0, .slice none 0 0] := by rw [hW]; exact (Box.new w _ _ rfl).alloc _
 have bd : Box W (w.heap.size + 1) 27 #[.slice none 0 0, .slice none 0 0] := by rw [hW]; exact Box.new _ _ _ (size_alloc _ _).symm
 have hwW : Ext w W := by rw [hW]; exact ext_trans (ext_alloc _ _) (ext_alloc _ _)
 have hzW : W.heap.size = w.heap.size + 1 + 1 := by rw [hW]; simp
 clear hW
 go_loopw [3] (fun i wr => ∃ (k : Nat) (v : Value), k ≤ 12 ∧ i = .int .i64 k ∧ Box wr (w.heap.size + 1) 27 #[v, .slice none 0 0] ∧ OwnBlks wr (w.heap.size + 2) 0 v (((List.range 12).map fun i : Nat => rBytes rFree (i : Int)).take k) ∧ Below (w.heap.size + 1) W wr) (fun i _ => 12 - (intOf i).toNat)
 case atStart => exact ⟨0, _, by omega, rfl, bd, OwnBlks.nil _ _ _, Below.refl _ _⟩
 case round =>
  obtain ⟨k, v, hk, rfl, b7, hown, hd⟩ := hrel
  have bRr := bR.below hd (by omega)
  by_cases hlt : k < 12
  ·have i1 : (k : Int) < 12 := by omega
   have hzr := hd.size
   obtain ⟨vs, ho, hv⟩ := hown
   have hlen : (((List.range 12).map fun i : Nat => rBytes rFree (i : Int)).take k).length = k := by simp; omega
   rw [hlen] at ho hv
   obtain ⟨Av, cv, rfl, hsv⟩ := own_shape ho
   go_wp2_with fail
   refine wp_region_below (w.heap.size + 1 + 1) 9 [0, 1, 2, 3, 7] true rfl (by kernel_rfl) (by kernel_rfl) ?_
   obtain ⟨D, hD⟩ : ∃ D, D = wr.drew := ⟨_, rfl⟩
   rw [← hD]
   have bD : Box D (w.heap.size + 1) 27 #[.slice Av k cv, .slice none 0 0] := by rw [hD]; exact b7
   have hoD : D.ownsRow (w.heap.size + 2) 22 1 (.slice Av k cv) k vs := by rw [hD]; exact ho
   have hwD : Ext wr D := by rw [hD]; exact (Below.refl _ _).drew
   have hdD : Below (w.heap.size + 1) W D := hd.trans (hwD.mono (by omega))
   have hzD := hdD.size
   clear hD
   apply mixF 0 (by kernel_rfl) (by rfl) (by rfl)
   ·(intro w' hx; go_simp <;> with_reducible rfl)
   simp only [pA, pB, pC, pD]
   apply mixF 1 (by kernel_rfl) (by rfl) (by rfl)
   ·(intro w' hx; have q := (bD.below hx (by omega)).cell 0 rfl; go_simp <;> with_reducible rfl)
   simp only [pA, pB, pC, pD]
   apply mixF 2 (by kernel_rfl) (by rfl) (by rfl)
   ·(intro w' hx; go_simp <;> with_reducible rfl)
   simp only [pA, pB, pC, pD]
   apply mixF 3 (by kernel_rfl) (by rfl) (by rfl)
   ·(intro w' hx; go_simp <;> with_reducible rfl)
   simp only [pA, pB, pC, pD]
   refine mixS 4 (by kernel_rfl) (by kernel_rfl) (by rfl) (by rfl) (fun K hK => ?_)
   go_wp2_with (go_at_call 51; refine (bytes_w (r := rFree) (k := (k : Int)) (B := 0) _ (Sl.nil_ _ _ _) (Nat.zero_le _) (by omega) (by decide) (by decide)).mono ?_; rintro e w1 ⟨v1, rfl, own1, he1⟩; obtain ⟨A1, c1, rfl, hs1⟩ := own_shape own1)
   refine hK.out _ _ (he1.mono (by omega)) ?_
   clear hK K
   try simp only [pA, pB, pC, pD]
   have hz1 := he1.size
   refine mixS 5 (by kernel_rfl) (by kernel_rfl) (by rfl) (by rfl) (fun K hK => ?_)
   go_wp2
   refine hK.out _ _ ((ext_alloc _ _).mono (by omega)) ?_
   clear hK K
   try simp only [pA, pB, pC, pD]
   obtain ⟨w4, hw4⟩ : ∃ w4, w4 = w1.alloc (.cells #[.slice A1 16 c1] 22) := ⟨_, rfl⟩
   rw [← hw4]
   have he4 : Ext w1 w4 := by rw [hw4]; exact ext_alloc _ _
   have hs4 : Sl w4 w4.heap.size 1 (some ⟨w1.heap.size, 0, none⟩) 1 1 [.slice A1 16 c1] := by rw [hw4]; exact Sl.new _ _ _ _ 1 1 rfl (by unfold maxLen; omega) (by simp)
   have hz4 := he4.size
   clear hw4
   have ho4 := own_ext (own_ext hoD he1) he4
   have hv4 := fun i hi => (((hv i hi).ext hwD).ext he1).ext he4
   have hu4 : ByE w4 0 (.slice A1 16 c1) (rBytes rFree (k : Int)) := (ByE.of_own (own_more own1 (by omega))).ext he4
   refine mixS 6 (by kernel_rfl) (by kernel_rfl) (by rfl) (by rfl) (fun K hK => ?_)
   refine wp_app_blk (.tmp 7) (.tmp 11) rfl (w.heap.size + 2) (.slice Av k cv) k _ rfl ho4 _ _ 1 1 [.slice A1 16 c1] rfl hs4 (by simp [Value.oneCell']) (by rw [lim_def]; omega) (by omega) ?_
   intro v7 w7 own7 hg7 hb7 hat7
   refine hK.out _ _ hb7 ?_
   clear hK K hat7
   try simp only [pA, pB, pC, pD]
   have hown7 := OwnBlks.snoc (rb := w.heap.size + 2) (base := 0) (by omega) (bs := ((List.range 12).map fun i : Nat => rBytes rFree (i : Int)).take k) (b := rBytes rFree (k : Int)) (by rw [hlen]; exact ho4) (by rw [hlen]; exact hv4) hu4 (by rw [hlen]; exact own7) hg7
   rw [← range_take k hlt] at hown7
   have hd7 : Below (w.heap.size + 1) W w7 := hdD.trans ((he1.mono (by omega)).trans ((he4.mono (by omega)).trans (hb7.mono (by omega))))
   have b8_ := bD.below ((he1.mono (B' := w.heap.size + 2) (by omega)).trans ((he4.mono (by omega)).trans hb7)) (by omega)
   have n0 := b8_.cell 0 rfl
   have n1 := b8_.cell 1 rfl
   have zn := b8_.free
   apply mixF 7 (by kernel_rfl) (by rfl) (by rfl)
   ·(intro w' hx; go_simp <;> with_reducible rfl)
   simp only [pA, pB, pC, pD]
   obtain ⟨A7, c7, rfl, _⟩ := own_shape own7
   refine mixLast 8 (by kernel_rfl) (by kernel_rfl) (by kernel_rfl) (by rfl) (by rfl) (fun K hK => ?_)
   have hK' := Lib.hid hK
   clear hK
   go_wp2
   refine hK'.out _ _ ?_
   clear hK' K n0 n1 zn b7 bD
   refine NoPanic.normal ?_
   go_wp2
   go_roundw
   case rel =>
    exact ⟨k + 1, _, by omega, by go_num, b8_.set 0 _, hown7.set b8_ (by decide) (by decide) (by omega) 0 _, hd7.setCell (Nat.le_refl _) _⟩
   case measure => simp [intOf]; omega
  ·have hk12 : k = 12 := by omega
   subst hk12
   rw [List.take_of_length_le (by simp)] at hown
   obtain ⟨Av, cv, rfl, hsv⟩ := hown.shape
   have n0 := b7.cell 0 rfl
   have n1 := b7.cell 1 rfl
   have r0 := bRr.cell 0 rfl
   have r1 := bRr.cell 1 rfl
   have zr := bRr.free
   go_wp2
   ((try simp only [Exit.inBlock, Exit.then]); refine bodyPost_ret (v := ?_) ?resultOf rfl ?_; case resultOf => (rw [results_cell1 rfl]; go_simp; rfl))
   have hdd := hwW.trans (hd.mono (by omega))
   refine ⟨_, rfl, ⟨_, _, rfl, ?_, OwnLats.nil _ _ _⟩, (hdd.setCell (Nat.le_refl _) _).setCell (Nat.le_refl _) _⟩
   exact ((hown.set bRr (by decide) (by decide) (Nat.zero_le _) 0 _).set (bRr.set 0 _) (by decide) (by decide) (Nat.zero_le _) 1 _).more (by omega)
end Go.Proofs.YtdmnmfnmaccmoaaGreatDoor
/- A row of the call's own kept while another row grows. No walk here. -/
namespace Go.Proofs.YtdmnmfnmaccmoaaGreatDoor
open Go Go.RowKit
theorem row_not {w : World} {base e size n : Nat} {v : Value} {xs : List Value} (h : w.ownsRow base e size v n xs) (t : Nat) (he : e ≠ t) :
  ∀ g, v.ownBlock = some g → ∀ cur, w.heap[g]? ≠ some (.cells cur t (0, 0)) := by
 intro g hg cur' e'
 rcases h.2 with ⟨rfl, _⟩ | ⟨g', cap, cur, rfl, h1, h2, _⟩
 ·cases hg
 ·simp only [Value.ownBlock, Option.some.injEq] at hg
  subst hg
  rw [h2] at e'
  injection e' with e'
  injection e' with _ e'
  exact he e'
theorem own_grown {w w' : World} {base e size n : Nat} {v : Value} {xs : List Value} {row : Option Nat} (h : w.ownsRow base e size v n xs) (hg : w.grownBy w' row) (hr : ∀ g, row = some g → ∀ cur, w.heap[g]? ≠ some (.cells cur e (0, 0))) : w'.ownsRow base e size v n xs := by
 refine ⟨h.1, ?_⟩
 rcases h.2 with hn | ⟨g, cap, cur, rfl, h1, hgg, rest⟩
 ·exact .inl hn
 ·exact .inr ⟨g, cap, cur, rfl, h1, (hg.block g (Array.getElem?_eq_some_iff.1 hgg).1 (fun e0 => hr g e0.symm _ hgg)).trans hgg, rest⟩
theorem OwnBlks.grown {w w' : World} {rb base : Nat} {v : Value} {bs : List (List UInt8)} {row : Option Nat} (h : OwnBlks w rb base v bs) (hg : w.grownBy w' row)
  (hr : ∀ g, row = some g → base ≤ g ∧ ∀ cur, w.heap[g]? ≠ some (.cells cur 5 (0, 0))) (hr' : ∀ g, row = some g → ∀ cur, w.heap[g]? ≠ some (.cells cur 22 (0, 0))) : OwnBlks w' rb base v bs := by
 obtain ⟨vs, ho, hv⟩ := h
 exact ⟨vs, own_grown ho hg hr', fun i hi => (hv i hi).grown hg hr⟩
theorem OwnLats.grown {w w' : World} {rb base : Nat} {v : Value} {ls : List (Int × List UInt8)} {row : Option Nat} (h : OwnLats w rb base v ls) (hg : w.grownBy w' row)
  (hr : ∀ g, row = some g → base ≤ g ∧ ∀ cur, w.heap[g]? ≠ some (.cells cur 5 (0, 0))) (hr' : ∀ g, row = some g → ∀ cur, w.heap[g]? ≠ some (.cells cur 104 (0, 0))) : OwnLats w' rb base v ls := by
 obtain ⟨vs, e, ho, hv⟩ := h
 exact ⟨vs, e, own_grown ho hg hr', fun i hi => ⟨(hv i hi).1, (hv i hi).2.grown hg hr⟩⟩
end Go.Proofs.YtdmnmfnmaccmoaaGreatDoor
/- Values whose blocks rise: each in a block of its own. No walk here. -/
namespace Go.Proofs.YtdmnmfnmaccmoaaGreatDoor
open Go Go.RowKit
theorem own_unique {w : World} {rb rb' e e' size n : Nat} {v : Value} {xs ys : List Value} (h : w.ownsRow rb e size v n xs) (k : w.ownsRow rb' e' size v n ys) : xs = ys := by
 rcases h with ⟨h0, ⟨rfl, h1⟩ | ⟨g, cap, cur, rfl, _, h2, _, _, _, h3⟩⟩
 ·have k0 := k.1
  rw [h1] at h0 k0
  exact (List.eq_nil_of_length_eq_zero (l := xs) (by simpa using h0)).trans (List.eq_nil_of_length_eq_zero (l := ys) (by simpa using k0)).symm
 ·rcases k with ⟨k0, ⟨k1, _⟩ | ⟨g', cap', cur', k1, _, k2, _, _, _, k3⟩⟩
  ·injection k1 with k1; cases k1
  ·injection k1 with k1
   injection k1 with k1
   injection k1 with k1
   subst k1
   rw [h2] at k2
   injection k2 with k2
   injection k2 with k2
   subst k2
   rw [← h3, ← k3]
def Inc (L : Nat) (l : List Value) (N : Nat) : Prop := (l.filterMap Value.ownBlock).Pairwise (· < ·) ∧ ∀ g ∈ l.filterMap Value.ownBlock, L ≤ g ∧ g < N
theorem Inc.nil (L N : Nat) : Inc L [] N := ⟨List.Pairwise.nil, fun g hg => by cases hg⟩
theorem Inc.more {L : Nat} {l : List Value} {N N' : Nat} (h : Inc L l N) (hN : N ≤ N') : Inc L l N' := ⟨h.1, fun g hg => ⟨(h.2 g hg).1, Nat.lt_of_lt_of_le (h.2 g hg).2 hN⟩⟩
theorem Inc.snoc {L : Nat} {l : List Value} {N N' : Nat} {u : Value} (h : Inc L l N) (hL : L ≤ N) (hN : N ≤ N') (hu : ∀ g, u.ownBlock = some g → N ≤ g ∧ g < N') : Inc L (l ++ [u]) N' := by
 unfold Inc
 rw [List.filterMap_append]
 cases hb : u.ownBlock with
 | none =>
  have : List.filterMap Value.ownBlock [u] = [] := by simp [hb]
  rw [this, List.append_nil]
  exact h.more hN
 | some g =>
  have : List.filterMap Value.ownBlock [u] = [g] := by simp [hb]
  rw [this]
  obtain ⟨h1, h2⟩ := hu g hb
  refine ⟨?_, fun x hx => ?_⟩
  ·rw [List.pairwise_append]
   exact ⟨h.1, List.pairwise_singleton _ _, fun a ha b hb' => by
    rw [List.mem_singleton.1 hb']
    exact Nat.lt_of_lt_of_le (h.2 a ha).2 h1⟩
  ·rcases List.mem_append.1 hx with hx | hx
   ·exact ⟨(h.2 x hx).1, Nat.lt_of_lt_of_le (h.2 x hx).2 hN⟩
   ·rw [List.mem_singleton.1 hx]; exact ⟨Nat.le_trans hL h1, h2⟩
theorem Inc.low {L : Nat} {l : List Value} {N i g : Nat} {a : Value} (h : Inc L l N) (hi : l[i]? = some a) (ha : a.ownBlock = some g) : L ≤ g :=
 (h.2 g (List.mem_filterMap.2 ⟨a, List.mem_of_getElem? hi, ha⟩)).1
theorem Inc.ne {L : Nat} {l : List Value} {N i j g : Nat} {a b : Value} (h : Inc L l N) (hij : i ≠ j) (hi : l[i]? = some a) (hj : l[j]? = some b) (ha : a.ownBlock = some g) : b.ownBlock ≠ some g := by
 intro hb
 have key : ∀ (l : List Value) (i j : Nat) (a b : Value), (l.filterMap Value.ownBlock).Pairwise (· < ·) → i < j → l[i]? = some a → l[j]? = some b → a.ownBlock = some g → b.ownBlock = some g → False := by
  intro l
  induction l with
  | nil => intro i j a b _ _ hi; simp at hi
  | cons x l ih =>
   intro i j a b hp hlt hi hj ha hb
   obtain ⟨j, rfl⟩ : ∃ j', j = j' + 1 := ⟨j - 1, by omega⟩
   have hj' : l[j]? = some b := by simpa using hj
   cases i with
   | zero =>
    have : x = a := by simpa using hi
    subst this
    rw [List.filterMap_cons, ha] at hp
    have hm : g ∈ l.filterMap Value.ownBlock := List.mem_filterMap.2 ⟨b, List.mem_of_getElem? hj', hb⟩
    exact absurd ((List.pairwise_cons.1 hp).1 g hm) (Nat.lt_irrefl _)
   | succ i =>
    refine ih i j a b ?_ (by omega) (by simpa using hi) hj' ha hb
    rw [List.filterMap_cons] at hp
    split at hp
    ·exact hp
    ·exact (List.pairwise_cons.1 hp).2
 rcases Nat.lt_or_gt_of_ne hij with hlt | hlt
 ·exact key l i j a b h.1 hlt hi hj ha hb
 ·exact key l j i b a h.1 hlt hj hi hb ha
def Apart (L : Nat) (w : World) (v : Value) : Prop :=
 ∃ b l n m vs us, v = .agg #[b, l] ∧ w.ownsRow 0 22 1 b n vs ∧ w.ownsRow 0 104 2 l m (lcells us) ∧ Inc L (vs ++ us.map Prod.snd) w.heap.size
theorem own_lt {w : World} {rb e size n : Nat} {v : Value} {xs : List Value} (h : w.ownsRow rb e size v n xs) : ∀ g, v.ownBlock = some g → rb ≤ g ∧ g < w.heap.size := fun g hg => h.lt g hg
end Go.Proofs.YtdmnmfnmaccmoaaGreatDoor
/- Walks: a disk's own copy, the package's. -/
namespace Go.Proofs.YtdmnmfnmaccmoaaGreatDoor
open Go Go.RowKit
structure DskOk (d : Dsk) : Prop where
 blocks : d.blocks.length ≤ 4096
 late : d.late.length ≤ 4096
 block : ∀ i, (d.blocks.getD i []).length ≤ 4096
 write : ∀ i, (d.late.getD i (0, [])).2.length ≤ 4096
theorem take_succ_getD {α : Type} (dd : α) (l : List α) (k : Nat) (hk : k < l.length) : l.take (k + 1) = l.take k ++ [l.getD k dd] := by
 rw [List.take_succ_eq_append_getElem hk, List.getD_eq_getElem?_getD, List.getElem?_eq_getElem hk]
 rfl
theorem lcells_inj : ∀ {us vs : List (Int × Value)}, lcells us = lcells vs → us = vs
 | [], [], _ => rfl
 | [], q :: r, h => by simp [lcells] at h
 | q :: r, [], h => by simp [lcells] at h
 | (a, u) :: r, (b, v) :: s, h => by
  simp only [lcells, List.cons.injEq, Value.int.injEq, true_and] at h
  obtain ⟨h1, h2, h3⟩ := h
  rw [h1, h2, lcells_inj h3]
set_option maxRecDepth 100000 in
set_option maxHeartbeats 4000000 in
theorem dskOwn_w {A E : Option Addr} {n c m e B : Nat} {d : Dsk} (w : World) (h : DskAt w B A n c E m e d) (hB : B ≤ w.heap.size) (hk : DskOk d) :
  Calls Tryz.prog 46 #[.agg #[.slice A n c, .slice E m e]] w fun e w' => ∃ v, e = .returned v ∧ OwnDsk w w' v d ∧ Apart w.heap.size w' v ∧ Ext w w' := by
 have Hk := Lib.hid hk
 have hn := h.blocks.len
 have hm := h.late.len
 have hn2 : n ≤ 4096 := by have := hk.blocks; omega
 have hm2 : m ≤ 4096 := by have := hk.late; omega
 have Hn := Lib.hid hn
 have Hm := Lib.hid hm
 have hcn := h.blocks.cap
 have hcm := h.late.cap
 clear hk hn hm
 go_enter Tryz.func46, Tryz.ntmps46
 go_wp2_with fail
 obtain ⟨W, hW⟩ : ∃ W, W = ((w.alloc (.cells #[.slice A n c, .slice E m e] 27)).alloc (.cells #[.slice none 0 0, .slice none 0 0] 27)).alloc (.cells #[.slice none 0 0, .slice none 0 0] 27) := ⟨_, rfl⟩
 rw [← hW]
 have bp : Box W w.heap.size 27 #[.slice A n c, .slice E m e] := by rw [hW]; exact ((Box.new w _ _ rfl).alloc _).alloc _
 have bR : Box W (w.heap.size + 1) 27 #[.slice none 0 0, .slice none 0 0] := by rw [hW]; exact (Box.new _ _ _ (size_alloc _ _).symm).alloc _
 have bd : Box W (w.heap.size + 2) 27 #[.slice none 0 0, .slice none 0 0] := by rw [hW]; exact Box.new _ _ _ (by simp)
 have hwW : Ext w W := by rw [hW]; exact ext_trans (ext_trans (ext_alloc _ _) (ext_alloc _ _)) (ext_alloc _ _)
 have hzW : W.heap.size = w.heap.size + 3 := by rw [hW]; simp
 clear hW
 have h := h.below (hwW.mono hB)
 go_loopw [11] (fun i wr => ∃ (k : Nat) (v : Value), k ≤ n ∧ i = .int .i64 k ∧ Box wr (w.heap.size + 2) 27 #[v, .slice none 0 0] ∧ OwnBlks wr (w.heap.size + 3) 0 v (d.blocks.take k) ∧ (∃ vs, wr.ownsRow (w.heap.size + 3) 22 1 v k vs ∧ Inc w.heap.size vs wr.heap.size) ∧ Below (w.heap.size + 2) W wr) (fun i _ => n - (intOf i).toNat)
 case atStart => exact ⟨0, _, by omega, rfl, bd, OwnBlks.nil _ _ _, ⟨[], own_nil _ _ _ _, Inc.nil _ _⟩, Below.refl _ _⟩
 case round =>
  obtain ⟨k, v, hk, rfl, b7, hown, ⟨vs', ho', hI⟩, hd⟩ := hrel
  have bpr := bp.below hd (by omega)
  have bRr := bR.below hd (by omega)
  by_cases hlt : k < n
  ·have i0 : (0 : Int) ≤ (k : Int) := by omega
   have i1 : (k : Int) < (n : Int) := by omega
   have hzr := hd.size
   obtain ⟨b, o, A1, n1, c1, rfl, hb, hc1, hy1⟩ := h.blocks.at_ hlt
   have hcr := (hd.cell (p := ⟨b, o + k, none⟩) (show b < w.heap.size + 2 by omega)).trans hc1
   have hy1 := Sl.below hy1 (hd.mono (by omega))
   have hn1 : n1 ≤ 4096 := by have := Hk.out.block k; have := By.len hy1; omega
   obtain ⟨vs, ho, hv⟩ := hown
   have hlen : (d.blocks.take k).length = k := by have := Hn.out; simp; omega
   rw [hlen] at ho hv
   have e9 := own_unique ho ho'
   subst e9
   have HI := Lib.hid hI
   clear ho' hI
   obtain ⟨Av, cv, rfl, hsv⟩ := own_shape ho
   have Hlen := Lib.hid hlen
   clear hlen
   go_wp2_with fail
   refine wp_region_below (w.heap.size + 3) 8 [0, 1, 2, 6] true rfl (by kernel_rfl) (by kernel_rfl) ?_
   obtain ⟨D, hD⟩ : ∃ D, D = wr.drew := ⟨_, rfl⟩
   rw [← hD]
   have bD : Box D (w.heap.size + 2) 27 #[.slice Av k cv, .slice none 0 0] := by rw [hD]; exact b7
   have hoD : D.ownsRow (w.heap.size + 3) 22 1 (.slice Av k cv) k vs := by rw [hD]; exact ho
   have hwD : Ext wr D := by rw [hD]; exact (Below.refl _ _).drew
   have hdD : Below (w.heap.size + 2) W D := hd.trans (hwD.mono (by omega))
   have hyD := Sl.below hy1 (hwD.mono (by omega))
   have hzD := hdD.size
   clear hD
   apply mixF 0 (by kernel_rfl) (by rfl) (by rfl)
   ·(intro w' hx; go_simp <;> with_reducible rfl)
   simp only [pA, pB, pC, pD]
   apply mixF 1 (by kernel_rfl) (by rfl) (by rfl)
   ·(intro w' hx; have q := (bD.below hx (by omega)).cell 0 rfl; go_simp <;> with_reducible rfl)
   simp only [pA, pB, pC, pD]
   apply mixF 2 (by kernel_rfl) (by rfl) (by rfl)
   ·(intro w' hx; go_simp <;> with_reducible rfl)
   simp only [pA, pB, pC, pD]
   refine mixS 3 (by kernel_rfl) (by kernel_rfl) (by rfl) (by rfl) (fun K hK => ?_)
   go_wp2_with (go_at_call 50; refine (clone_w _ hyD (by omega) (by rw [blim_def]; omega)).mono ?_; rintro e w1 ⟨v1, rfl, own1, he1⟩; obtain ⟨A2, c2, rfl, hs1⟩ := own_shape own1)
   refine hK.out _ _ (he1.mono (by omega)) ?_
   clear hK K
   try simp only [pA, pB, pC, pD]
   have hz1 := he1.size
   refine mixS 4 (by kernel_rfl) (by kernel_rfl) (by rfl) (by rfl) (fun K hK => ?_)
   go_wp2
   refine hK.out _ _ ((ext_alloc _ _).mono (by omega)) ?_
   clear hK K
   try simp only [pA, pB, pC, pD]
   obtain ⟨w4, hw4⟩ : ∃ w4, w4 = w1.alloc (.cells #[.slice A2 n1 c2] 22) := ⟨_, rfl⟩
   rw [← hw4]
   have he4 : Ext w1 w4 := by rw [hw4]; exact ext_alloc _ _
   have hs4 : Sl w4 w4.heap.size 1 (some ⟨w1.heap.size, 0, none⟩) 1 1 [.slice A2 n1 c2] := by rw [hw4]; exact Sl.new _ _ _ _ 1 1 rfl (by unfold maxLen; omega) (by simp)
   have hz4 := he4.size
   clear hw4
   have ho4 := own_ext (own_ext hoD he1) he4
   have hv4 := fun i hi => (((hv i hi).ext hwD).ext he1).ext he4
   have hu4 : ByE w4 0 (.slice A2 n1 c2) (d.blocks.getD k []) := (ByE.of_own (own_more own1 (by omega))).ext he4
   refine mixS 5 (by kernel_rfl) (by kernel_rfl) (by rfl) (by rfl) (fun K hK => ?_)
   refine wp_app_blk (.tmp 16) (.tmp 19) rfl (w.heap.size + 3) (.slice Av k cv) k _ rfl ho4 _ _ 1 1 [.slice A2 n1 c2] rfl hs4 (by simp [Value.oneCell']) (by rw [lim_def]; omega) (by omega) ?_
   intro v7 w7 own7 hg7 hb7 hat7
   refine hK.out _ _ hb7 ?_
   clear hK K hat7
   try simp only [pA, pB, pC, pD]
   have hown7 := OwnBlks.snoc (rb := w.heap.size + 3) (base := 0) (by omega) (bs := d.blocks.take k) (b := d.blocks.getD k []) (by rw [Hlen.out]; exact ho4) (by rw [Hlen.out]; exact hv4) hu4 (by rw [Hlen.out]; exact own7) hg7
   rw [← take_succ_getD [] d.blocks k (by have := Hn.out; omega)] at hown7
   have hd7 : Below (w.heap.size + 2) W w7 := hdD.trans ((he1.mono (by omega)).trans ((he4.mono (by omega)).trans (hb7.mono (by omega))))
   have b8_ := bD.below ((he1.mono (B' := w.heap.size + 3) (by omega)).trans ((he4.mono (by omega)).trans hb7)) (by omega)
   have HI7 := Lib.hid (HI.out.snoc (N' := w7.heap.size) (u := .slice A2 n1 c2) (by omega) (by have := hg7.size; have := hwD.size; omega) (fun g hg => by have := own_lt own1 g hg; have := hg7.size; have := hwD.size; omega))
   have n0 := b8_.cell 0 rfl
   have n1_ := b8_.cell 1 rfl
   have zn := b8_.free
   apply mixF 6 (by kernel_rfl) (by rfl) (by rfl)
   ·(intro w' hx; go_simp <;> with_reducible rfl)
   simp only [pA, pB, pC, pD]
   obtain ⟨A7, c7, rfl, _⟩ := own_shape own7
   refine mixLast 7 (by kernel_rfl) (by kernel_rfl) (by kernel_rfl) (by rfl) (by rfl) (fun K hK => ?_)
   have hK' := Lib.hid hK
   clear hK
   go_wp2
   refine hK'.out _ _ ?_
   clear hK' K n0 n1_ zn b7 bD
   refine NoPanic.normal ?_
   go_wp2
   go_roundw
   case rel => exact ⟨k + 1, _, by omega, by go_num, b8_.set 0 _, hown7.set b8_ (by decide) (by decide) (by omega) 0 _, ⟨_, own_setT own7 b8_ (by decide) 0 _, by rw [size_set]; exact HI7.out⟩, hd7.setCell (Nat.le_refl _) _⟩
   case measure => simp [intOf]; omega
  ·have hkn : k = n := by omega
   subst hkn
   rw [List.take_of_length_le (by have := Hn.out; omega)] at hown
   obtain ⟨Av, cv, rfl, hsv⟩ := hown.shape
   obtain ⟨m0, m1⟩ := bpr.cells2
   have h0 := hd
   have b0 := b7
   have hown0 := hown
   generalize hvv : Value.slice Av d.blocks.length cv = vb at b0 hown0 ho'
   clear hvv hown b7
   have HI0 : Hid (∃ n vs, wr.ownsRow (w.heap.size + 3) 22 1 vb n vs ∧ Inc w.heap.size vs wr.heap.size) := ⟨_, vs', ho', hI⟩
   clear ho' hI
   go_wp2_with fail
   clear m0 m1 bpr bRr hd
   go_loopw [26] (fun i wr => ∃ (k : Nat) (v : Value), k ≤ m ∧ i = .int .i64 k ∧ Box wr (w.heap.size + 2) 27 #[vb, v] ∧ OwnBlks wr (w.heap.size + 3) 0 vb d.blocks ∧ OwnLats wr (w.heap.size + 3) 0 v (d.late.take k) ∧ (∃ n vs us, wr.ownsRow (w.heap.size + 3) 22 1 vb n vs ∧ wr.ownsRow (w.heap.size + 3) 104 2 v k (lcells us) ∧ us.length = k ∧ Inc w.heap.size (vs ++ us.map Prod.snd) wr.heap.size) ∧ Below (w.heap.size + 2) W wr) (fun i _ => m - (intOf i).toNat)
   case atStart =>
    obtain ⟨n0, vs0, hr0, hi0⟩ := HI0.out
    exact ⟨0, _, by omega, rfl, b0, hown0, OwnLats.nil _ _ _, ⟨n0, vs0, [], hr0, own_nil _ _ _ _, rfl, by simpa using hi0⟩, h0⟩
   case round =>
    obtain ⟨k, v, hk, rfl, b7, hown, hlat, ⟨nb, vsb, us, hrb, hru, hul, hI⟩, hd⟩ := hrel
    clear HI0
    have HI := Lib.hid hI
    clear hI
    have bRr := bR.below hd (by omega)
    have hzr := hd.size
    by_cases hlt : k < m
    ·have i0 : (0 : Int) ≤ (k : Int) := by omega
     have i1 : (k : Int) < (m : Int) := by omega
     obtain ⟨b, o, x, A1, n1, c1, rfl, hb, ck, cd, Hx, hy1⟩ := h.late.at_ hlt
     rw [← Nat.add_assoc] at cd
     have ckr := (hd.cell (p := ⟨b, o + k * 2, none⟩) (show b < w.heap.size + 2 by omega)).trans ck
     have cdr := (hd.cell (p := ⟨b, o + k * 2 + 1, none⟩) (show b < w.heap.size + 2 by omega)).trans cd
     have hy1 := Sl.below hy1 (hd.mono (by omega))
     have hn1 : n1 ≤ 4096 := by have := Hk.out.write k; have := By.len hy1; omega
     obtain ⟨vs, he, ho, hv⟩ := hlat
     have hlen : (d.late.take k).length = k := by have := Hm.out; simp; omega
     rw [hlen] at ho hv he
     have hus := own_unique hru ho
     have hus : vs = us := (lcells_inj hus).symm
     subst hus
     clear hru hul
     have Hrb := Lib.hid hrb
     clear hrb
     obtain ⟨Av, cv, rfl, hsv⟩ := own_shape ho
     have Hlen := Lib.hid hlen
     clear hlen
     go_wp2_with fail
     obtain ⟨X, hX⟩ : ∃ X, X = wr.alloc (.cells #[.int .i64 x, .slice A1 n1 c1] 104) := ⟨_, rfl⟩
     rw [← hX]
     have b6 : Box X wr.heap.size 104 #[.int .i64 x, .slice A1 n1 c1] := by rw [hX]; exact Box.new _ _ _ rfl
     have heX : Ext wr X := by rw [hX]; exact ext_alloc _ _
     clear hX
     refine wp_region_mix (fun a b => Below (w.heap.size + 3) a b ∧ b.heap[wr.heap.size]? = a.heap[wr.heap.size]?) (fun _ => ⟨Below.refl _ _, rfl⟩) (fun _ _ _ h k => ⟨h.1.trans k.1, k.2.trans h.2⟩) 12 [0, 1, 2, 3, 4, 5, 7, 10] true rfl (by kernel_rfl) (by kernel_rfl) ?_
     obtain ⟨D, hD⟩ : ∃ D, D = X.drew := ⟨_, rfl⟩
     rw [← hD]
     have hwD : Ext wr D := by rw [hD]; exact heX.drew
     have b6 : Box D wr.heap.size 104 #[.int .i64 x, .slice A1 n1 c1] := by rw [hD]; exact b6
     clear hD heX
     have bD := b7.ext hwD
     have hoD := own_ext ho hwD
     have hdD : Below (w.heap.size + 2) W D := hd.trans (hwD.mono (by omega))
     have hyD := Sl.below hy1 (hwD.mono (by omega))
     have hbD := hown.ext hwD
     have hzD := hdD.size
     have hzX := b6.lt
     apply mixF 0 (by kernel_rfl) (by rfl) (by rfl)
     ·(intro w' hx; go_simp <;> with_reducible rfl)
     simp only [pA, pB, pC, pD]
     apply mixF 1 (by kernel_rfl) (by rfl) (by rfl)
     ·(intro w' hx; have q := (bD.below hx.1 (by omega)).cell 1 rfl; go_simp <;> with_reducible rfl)
     simp only [pA, pB, pC, pD]
     apply mixF 2 (by kernel_rfl) (by rfl) (by rfl)
     ·(intro w' hx; go_simp <;> with_reducible rfl)
     simp only [pA, pB, pC, pD]
     apply mixF 3 (by kernel_rfl) (by rfl) (by rfl)
     ·(intro w' hx; have q := Box.cell (hx.2.trans b6) 0 rfl; go_simp <;> with_reducible rfl)
     simp only [pA, pB, pC, pD]
     apply mixF 4 (by kernel_rfl) (by rfl) (by rfl)
     ·(intro w' hx; go_simp <;> with_reducible rfl)
     simp only [pA, pB, pC, pD]
     apply mixF 5 (by kernel_rfl) (by rfl) (by rfl)
     ·(intro w' hx; have q := Box.cell (hx.2.trans b6) 1 rfl; go_simp <;> with_reducible rfl)
     simp only [pA, pB, pC, pD]
     refine mixS 6 (by kernel_rfl) (by kernel_rfl) (by rfl) (by rfl) (fun K hK => ?_)
     go_wp2_with (go_at_call 50; refine (clone_w _ hyD (by omega) (by rw [blim_def]; omega)).mono ?_; rintro e w1 ⟨v1, rfl, own1, he1⟩; obtain ⟨A2, c2, rfl, hs1⟩ := own_shape own1)
     refine hK.out _ _ (⟨he1.mono (by omega), he1.block _ hzX⟩) ?_
     clear hK K
     try simp only [pA, pB, pC, pD]
     have hz1 := he1.size
     apply mixF 7 (by kernel_rfl) (by rfl) (by rfl)
     ·(intro w' hx; go_simp <;> with_reducible rfl)
     simp only [pA, pB, pC, pD]
     refine mixS 8 (by kernel_rfl) (by kernel_rfl) (by rfl) (by rfl) (fun K hK => ?_)
     go_wp2
     refine hK.out _ _ ⟨(ext_alloc _ _).mono (by omega), (ext_alloc _ _).block _ (by omega)⟩ ?_
     clear hK K
     try simp only [pA, pB, pC, pD]
     obtain ⟨w4, hw4⟩ : ∃ w4, w4 = w1.alloc (.cells #[.int .i64 x, .slice A2 n1 c2] 104) := ⟨_, rfl⟩
     rw [← hw4]
     have he4 : Ext w1 w4 := by rw [hw4]; exact ext_alloc _ _
     have hs4 : Sl w4 w4.heap.size 2 (some ⟨w1.heap.size, 0, none⟩) 1 1 [.int .i64 x, .slice A2 n1 c2] := by rw [hw4]; exact Sl.new _ _ _ _ 2 1 rfl (by unfold maxLen; omega) (by simp)
     have hz4 := he4.size
     clear hw4
     have ho4 := own_ext (own_ext hoD he1) he4
     have hb4 := (hbD.ext he1).ext he4
     have hv4 := fun i hi => (⟨(hv i hi).1, (((hv i hi).2.ext hwD).ext he1).ext he4⟩ : _ ∧ _)
     have hu4 : ByE w4 0 (.slice A2 n1 c2) (d.late.getD k (0, [])).2 := (ByE.of_own (own_more own1 (by omega))).ext he4
     refine mixS 9 (by kernel_rfl) (by kernel_rfl) (by rfl) (by rfl) (fun K hK => ?_)
     refine wp_app_wr (.tmp 31) (.tmp 38) rfl (w.heap.size + 3) (.slice Av k cv) k _ rfl ho4 _ _ 1 1 [.int .i64 x, .slice A2 n1 c2] rfl hs4 (by simp [Value.oneCell']) (by rw [lim_def]; omega) (by omega) ?_
     intro v7 w7 own7 hg7 hb7 hat7
     have hne : some wr.heap.size ≠ (Value.slice Av k cv).ownBlock := fun e0 => by
      have := (ho.lt _ e0.symm).2
      omega
     refine hK.out _ _ ⟨hb7, hg7.block _ (by omega) hne⟩ ?_
     clear hK K hat7
     try simp only [pA, pB, pC, pD]
     have hlat7 := OwnLats.snoc (rb := w.heap.size + 3) (base := 0) (by omega) (ls := d.late.take k) (k := x) (b := (d.late.getD k (0, [])).2) (vs := vs) (by rw [Hlen.out]; exact he) (by rw [Hlen.out]; exact ho4) (by rw [Hlen.out]; exact hv4) hu4 (by rw [Hlen.out]; exact own7) hg7
     have hb9 := hb4.grown hg7 (fun g e0 => (row_kind ho4 (by decide) g e0).imp (fun h => by omega) id) (row_not ho4 _ (by decide))
     have e9 : (x, (d.late.getD k (0, [])).2) = d.late.getD k (0, []) := Prod.ext Hx.out rfl
     rw [e9, ← take_succ_getD (0, []) d.late k (by have := Hm.out; omega)] at hlat7
     have hd7 : Below (w.heap.size + 2) W w7 := hdD.trans ((he1.mono (by omega)).trans ((he4.mono (by omega)).trans (hb7.mono (by omega))))
     have b8_ := bD.below ((he1.mono (B' := w.heap.size + 3) (by omega)).trans ((he4.mono (by omega)).trans hb7)) (by omega)
     have HI7 := Lib.hid (HI.out.snoc (N' := w7.heap.size) (u := .slice A2 n1 c2) (by omega) (by have := hg7.size; have := hwD.size; omega) (fun g hg => by have := own_lt own1 g hg; have := hg7.size; have := hwD.size; omega))
     have Hrb7 := Lib.hid (own_grown (own_ext (own_ext (own_ext Hrb.out hwD) he1) he4) hg7 (row_not ho4 _ (by decide)))
     have n0 := b8_.cell 0 rfl
     have n1_ := b8_.cell 1 rfl
     have zn := b8_.free
     apply mixF 10 (by kernel_rfl) (by rfl) (by rfl)
     ·(intro w' hx; go_simp <;> with_reducible rfl)
     simp only [pA, pB, pC, pD]
     obtain ⟨A7, c7, rfl, _⟩ := own_shape own7
     refine mixLast 11 (by kernel_rfl) (by kernel_rfl) (by kernel_rfl) (by rfl) (by rfl) (fun K hK => ?_)
     have hK' := Lib.hid hK
     clear hK
     go_wp2
     refine hK'.out _ _ ?_
     clear hK' K n0 n1_ zn b7 bD
     refine NoPanic.normal ?_
     go_wp2
     go_roundw
     case rel => exact ⟨k + 1, _, by omega, by go_num, b8_.set 1 _, hb9.set b8_ (by decide) (by decide) (by omega) 1 _, hlat7.set b8_ (by decide) (by decide) (by omega) 1 _, ⟨_, _, vs ++ [(x, .slice A2 n1 c2)], own_setT Hrb7.out b8_ (by decide) 1 _, by rw [lcells_append]; exact own_setT own7 b8_ (by decide) 1 _, by simp [he], by rw [size_set, List.map_append, ← List.append_assoc]; exact HI7.out⟩, hd7.setCell (Nat.le_refl _) _⟩
     case measure => simp [intOf]; omega
    ·have hkm : k = m := by omega
     subst hkm
     rw [List.take_of_length_le (by have := Hm.out; omega)] at hlat
     obtain ⟨Al, cl, rfl, _⟩ := hlat.shape
     obtain ⟨Ab, cb, rfl, _⟩ := hown.shape
     have n0 := b7.cell 0 rfl
     have n1 := b7.cell 1 rfl
     have r0 := bRr.cell 0 rfl
     have r1 := bRr.cell 1 rfl
     have zr := bRr.free
     go_wp2
     ((try simp only [Exit.inBlock, Exit.then]); refine bodyPost_ret (v := ?_) ?resultOf rfl ?_; case resultOf => (rw [results_cell1 rfl]; go_simp; rfl))
     have hdd := hwW.trans (hd.mono (by omega))
     refine ⟨_, rfl, ⟨_, _, rfl, ?_, ?_⟩, ⟨_, _, _, _, _, us, rfl, own_more (own_setT (own_setT hrb bRr (by decide) 0 _) (bRr.set 0 _) (by decide) 1 _) (Nat.zero_le _), own_more (own_setT (own_setT hru bRr (by decide) 0 _) (bRr.set 0 _) (by decide) 1 _) (Nat.zero_le _), by rw [size_set, size_set]; exact HI.out⟩, (hdd.setCell (by simp) _).setCell (by simp) _⟩
     ·exact ((hown.set bRr (by decide) (by decide) (by omega) 0 _).set (bRr.set 0 _) (by decide) (by decide) (by omega) 1 _).more (by omega)
     ·exact ((hlat.set bRr (by decide) (by decide) (by omega) 0 _).set (bRr.set 0 _) (by decide) (by decide) (by omega) 1 _).more (by omega)
end Go.Proofs.YtdmnmfnmaccmoaaGreatDoor
