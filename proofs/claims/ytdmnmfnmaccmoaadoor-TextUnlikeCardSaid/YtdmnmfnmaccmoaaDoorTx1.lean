/- The library's contracts that chapter 7 takes, laid at this program; the package-level variables that they read. -/
import Derived.Test.YtdmnmfnmaccmoaaDoorG3
import Derived.Shelf.Lay
import Derived.Ground.NamesProg
import Derived.Shelf.Strings.BuilderK
import Derived.Shelf.Strings.SlTrimAscii
import Derived.Shelf.Strings.SplitShaped
import Derived.Shelf.Strconv.Itoa3
import Derived.Shelf.Strconv.ErrVarAll
namespace Go.Proofs
open Go.Shelf
def Tryd.lays167_ren : Go.Shelf.Ren := ⟨fun | 167 => 28 | 240 => 47 | 276 => 63 | n => n, fun | 0 => 0 | 4 => 4 | 5 => 5 | 9 => 9 | 20 => 20 | 37 => 22 | 70 => 53 | 72 => 55 | 75 => 42 | 164 => 93 | 80 => 58 | n => n, fun n => n⟩
theorem Tryd.lays167 : Lays.n167 Tryd.prog Tryd.lays167_ren where
 mixed := by kernel_rfl
 f167 := Tryd.func28.trans (congrArg some (by kernel_rfl))
 f240 := Tryd.func47.trans (congrArg some (by kernel_rfl))
 f276 := Tryd.func63.trans (congrArg some (by kernel_rfl))
 t0 := Tryd.underlying0
 a0 := Tryd.isAgg0
 z0 := Tryd.sizeOf0
 v0 := Tryd.zeroValue0
 t4 := Tryd.underlying4
 a4 := Tryd.isAgg4
 z4 := Tryd.sizeOf4
 v4 := Tryd.zeroValue4
 t5 := Tryd.underlying5
 a5 := Tryd.isAgg5
 z5 := Tryd.sizeOf5
 v5 := Tryd.zeroValue5
 t9 := Tryd.underlying9
 a9 := Tryd.isAgg9
 z9 := Tryd.sizeOf9
 v9 := Tryd.zeroValue9
 t20 := Tryd.underlying20
 a20 := Tryd.isAgg20
 z20 := Tryd.sizeOf20
 v20 := Tryd.zeroValue20
 t37 := Tryd.underlying22
 a37 := Tryd.isAgg22
 z37 := Tryd.sizeOf22
 v37 := Tryd.zeroValue22
 t70 := Tryd.underlying53
 a70 := Tryd.isAgg53
 z70 := Tryd.sizeOf53
 v70 := Tryd.zeroValue53
 t72 := Tryd.underlying55
 a72 := Tryd.isAgg55
 z72 := Tryd.sizeOf55
 v72 := Tryd.zeroValue55
 t75 := Tryd.underlying42
 a75 := Tryd.isAgg42
 z75 := Tryd.sizeOf42
 v75 := Tryd.zeroValue42
 t164 := Tryd.underlying93
 a164 := Tryd.isAgg93
 z164 := Tryd.sizeOf93
 v164 := Tryd.zeroValue93
shelf_lay Lays.n169 Nm 169 at Tryd as Tryd.lays169
shelf_lay Lays.n160 Nm 160 at Tryd as Tryd.lays160
shelf_lay Lays.n146 Nm 146 at Tryd as Tryd.lays146
shelf_lay LaysM.n171 Nm 171 at Tryd as Tryd.lays171
shelf_lay LaysC.n172 Nm 172 at Tryd as Tryd.lays172
theorem Tryd.extra167 : Builder.Extra Tryd.prog Tryd.lays167_ren where
 sizeBuilder := by kernel_rfl
 liesBuilder := by kernel_rfl
 t5 := Tryd.underlying5
 a5 := Tryd.isAgg5
 z5 := Tryd.sizeOf5
 v5 := Tryd.zeroValue5
 infoByte := by kernel_rfl
 cellsByte := by kernel_rfl
 sizeByte := by kernel_rfl
 neB5 := by decide
theorem Tryd.extra169 : Builder.Extra Tryd.prog Tryd.lays169_ren where
 sizeBuilder := by kernel_rfl
 liesBuilder := by kernel_rfl
 t5 := Tryd.underlying5
 a5 := Tryd.isAgg5
 z5 := Tryd.sizeOf5
 v5 := Tryd.zeroValue5
 infoByte := by kernel_rfl
 cellsByte := by kernel_rfl
 sizeByte := by kernel_rfl
 neB5 := by decide
end Go.Proofs
namespace Go.Proofs.YtdmnmfnmaccmoaaDoor
open Go Go.RowKit

/-! ### variables -/
theorem var_ext {w w' : World} {n : String} {cs : Array Value} (h : w.var? Tryd.prog n = some cs) (k : Ext w w') : w'.var? Tryd.prog n = some cs := by
 unfold World.var? at h ⊢
 cases hg : Tryd.prog.globalNamed n with
 | none => rw [hg] at h; cases h
 | some g =>
  rw [hg] at h
  simp only [Option.bind_some] at h ⊢
  have hlt : g < w.heap.size := by
   rcases Nat.lt_or_ge g w.heap.size with h' | h'
   ·exact h'
   ·rw [Array.getElem?_eq_none h'] at h; cases h
  rw [k.block g hlt]
  exact h
/-- What the library reads of package-level variables. -/
structure VarT (w : World) : Prop where
 max : ∃ m, w.cell? ⟨2, 0, none⟩ = some (.int .i64 m)
 syn : ∃ tp p, w.var? Tryd.prog "strconv.ErrSyntax" = some #[.iface tp p]
 rng : ∃ tp p, w.var? Tryd.prog "strconv.ErrRange" = some #[.iface tp p]
 tab : Lib.TabIs Tryd.prog w "internal/strconv.uint64pow10" .u64 Lib.pow10Tab
theorem VarT.ext {w w' : World} (h : VarT w) (k : Ext w w') : VarT w' := by
 obtain ⟨⟨m, h1⟩, ⟨a, b, h2⟩, ⟨c, d, h3⟩, h4⟩ := h
 refine ⟨⟨m, ?_⟩, ⟨a, b, var_ext h2 k⟩, ⟨c, d, var_ext h3 k⟩, var_ext h4 k⟩
 have hlt : 2 < w.heap.size := by
  rcases Nat.lt_or_ge 2 w.heap.size with h' | h'
  ·exact h'
  ·unfold World.cell? at h1
   simp [Array.getElem?_eq_none h'] at h1
 exact (k.cell (p := ⟨2, 0, none⟩) hlt).trans h1

/-! ### numbers' texts -/
theorem itoa_v {n : Int} (h0 : -9223372036854775808 ≤ n) (h1 : n ≤ 9223372036854775807) {w : World} (h : VarT w) :
  Calls Tryd.prog 20 #[.int .i64 n] w fun e w' => e = .returned (.string ⟨(Lib.itoa n).toArray⟩) ∧ Ext w w' :=
 (Any.strconv_Itoa Tryd.lays171 n h0 h1 w h.tab).mono fun e w' ⟨he, k, os, hw⟩ => ⟨he, by
  subst hw
  exact ⟨rfl, rfl, rfl, by simp [Sort.grow], fun b hb => by simp only [Sort.grow]; rw [Array.getElem?_append_left (by simpa using hb)]; rfl⟩⟩
/-- strconv.Atoi: the number and no error, or some number and an error. -/
theorem atoi_v (l : List UInt8) (hl : l.length ≤ 281474976710656) {w : World} (h : VarT w) :
  Calls Tryd.prog 19 #[.string ⟨l.toArray⟩] w fun e w' => (∃ v x, e = .returned (.tuple #[.int .i64 v, x]) ∧ -9223372036854775808 ≤ v ∧ v ≤ 9223372036854775807 ∧ ((x = .nilIface ∧ Lib.atoiAll l = .ok v) ∨ (∃ t p, x = .iface t p) ∧ ∀ u, Lib.atoiAll l ≠ .ok u)) ∧ Ext w w' := by
 have hs : (⟨l.toArray⟩ : ByteArray).size = l.length := by show l.toArray.size = _; simp
 rcases ha : Lib.atoiAll l with v | _ | _
 ·refine (Any.strconv_Atoi_ok Tryd.lays172 ⟨l.toArray⟩ (by omega) v ha w).mono fun e w' ⟨he, hw⟩ => ⟨⟨v, .nilIface, he, (Lib.atoiAll_bounds ha).1, (Lib.atoiAll_bounds ha).2, .inl ⟨rfl, rfl⟩⟩, ?_⟩
  rcases hw with rfl | ⟨t, rfl⟩
  ·exact Below.refl _ _
  ·exact Lib.bytesWorld_below _ _ _
 ·obtain ⟨tp, p, hv⟩ := h.syn
  exact (Any.strconv_Atoi_syntax_var Tryd.lays172 ⟨l.toArray⟩ (by omega) ha tp p w hv).mono fun e w' ⟨N, he, _, _, hb⟩ => ⟨⟨0, _, he, by decide, by decide, .inr ⟨⟨_, _, rfl⟩, fun u hu => by cases hu⟩⟩, hb⟩
 ·obtain ⟨tp, p, hv⟩ := h.rng
  refine (Any.strconv_Atoi_range_var Tryd.lays172 ⟨l.toArray⟩ (by omega) ha tp p w hv).mono fun e w' ⟨N, he, _, _, hb⟩ => ⟨⟨_, _, he, ?_, ?_, .inr ⟨⟨_, _, rfl⟩, fun u hu => by cases hu⟩⟩, hb⟩
  all_goals unfold Lib.atoiSat; split <;> decide
end Go.Proofs.YtdmnmfnmaccmoaaDoor

