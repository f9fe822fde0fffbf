/- What a row's list gives: the variables that the library reads; a world that lays them. -/
import Derived.Test.YtdmnmfnmaccmoaaDoorCards
import Derived.Test.YtdmnmfnmaccmoaaDoorTie
import Derived.Test.YtdmnmfnmaccmoaaDoorTx1
import Derived.Deep.DeepHandedRow
import Derived.Deep.DeepWitnessRowRef
import Derived.Deep.DeepLaidRun
import Derived.Stop.LaidErr
import Derived.Lib.LaidTab
import Derived.MakeChecks
namespace Go.Proofs
open Go.Shelf
shelf_lay LaysM.n146 Nm 146 at Tryd as Tryd.laysM146
end Go.Proofs
namespace Go.Proofs.YtdmnmfnmaccmoaaDoor
open Go Go.RowKit

theorem gTab : Tryd.prog.globalNamed "internal/strconv.uint64pow10" = some 3 := by kernel_rfl
theorem gTabType : (Tryd.prog.globals[3]?).map (·.type) = some 101 := by kernel_rfl
theorem cellsTab : Tryd.prog.cellsOf 101 = 20 := by kernel_rfl
theorem cellsU64 : Tryd.prog.cellsOf 49 = 1 := by kernel_rfl
theorem cellsErr : Tryd.prog.cellsOf 99 = 1 := by kernel_rfl
theorem cellsStr : Tryd.prog.cellsOf 9 = 1 := by kernel_rfl
theorem gSyn : Tryd.prog.globalNamed "strconv.ErrSyntax" = some 0 := by kernel_rfl
theorem gSynType : (Tryd.prog.globals[0]?).map (·.type) = some 42 := by kernel_rfl
theorem gRng : Tryd.prog.globalNamed "strconv.ErrRange" = some 1 := by kernel_rfl
theorem gRngType : (Tryd.prog.globals[1]?).map (·.type) = some 42 := by kernel_rfl
theorem star : "*" ++ "errors.errorString" = "*errors.errorString" := by decide
theorem theRow (u : TypeId) (h : Tryd.prog.typeName? 3 u = some "*errors.errorString") : u = 97 :=
 typeName_ptr_named (nm := "errors.errorString") (by rw [star]; kernel_rfl) (by kernel_rfl) (by decide) u (by rw [star]; exact h)
/-- The list of the rows. -/
abbrev theList : List (String × DataW Unit) := [("math/bits.deBruijn32tab", Rows.laid_math_bits_deBruijn32tab), ("math/bits.deBruijn64tab", Rows.laid_math_bits_deBruijn64tab), ("internal/strconv.uint64pow10", Rows.laid_internal_strconv_uint64pow10), ("unicode/utf8.acceptRanges", Rows.laid_unicode_utf8_acceptRanges), ("strconv.ErrRange", Rows.laid_strconv_ErrRange), ("strconv.ErrSyntax", Rows.laid_strconv_ErrSyntax), ("unicode/utf8.first", Rows.laid_unicode_utf8_first)]
theorem plainList : (theList.all fun x => x.2.handleName?.isNone) = true := by kernel_rfl
set_option maxRecDepth 100000 in
theorem varT_of {W : World} (hS : W.ShapedOpen Tryd.prog) (hL : laidMetH Tryd.prog theList W) : VarT W := by
 rw [MakeChecks.laidMetH_plain _ _ _ plainList] at hL
 have h1 := hL.tail.tail
 have h2 := h1.tail.tail
 have h3 := h2.tail
 obtain ⟨a0, s0, hv0, -, -, -⟩ := laid_sentinel h2 gRng gRngType Tryd.underlying42 theRow Tryd.underlying97 Tryd.underlying99 rfl rfl Tryd.underlying9 cellsErr cellsStr
 obtain ⟨a1, s1, hv1, -, -, -⟩ := laid_sentinel h3 gSyn gSynType Tryd.underlying42 theRow Tryd.underlying97 Tryd.underlying99 rfl rfl Tryd.underlying9 cellsErr cellsStr
 exact ⟨Tryd.laysM146.s1_3 W hS, ⟨_, _, hv1⟩, ⟨_, _, hv0⟩, Lib.tabIs_of_head gTab gTabType Tryd.underlying101 Tryd.underlying49 cellsU64 cellsTab h1⟩

/-! ### one world that lays them -/
def flat (l : List (DataW Unit)) : List Value := l.flatMap fun
 | .lit (.int k z) => [.int k z]
 | .agg r => r.flatMap fun
  | .lit (.int k z) => [.int k z]
  | _ => []
 | _ => []
def flatAgg : DataW Unit → Array Value
 | .agg r => (flat r).toArray
 | _ => #[]
abbrev synS : ByteArray := ⟨#[105, 110, 118, 97, 108, 105, 100, 32, 115, 121, 110, 116, 97, 120]⟩
abbrev rngS : ByteArray := ⟨#[118, 97, 108, 117, 101, 32, 111, 117, 116, 32, 111, 102, 32, 114, 97, 110, 103, 101]⟩
noncomputable def low : Nat := (World.holding Tryd.prog default ⟨#[], #[], []⟩).heap.size
def setAs (cs : Array Value) : Obj → Obj
 | .cells _ t fr => .cells cs t fr
 | o => o
noncomputable def laidWorld (os : Os) : World :=
 let w0 := World.holding Tryd.prog os ⟨#[.cells #[.string synS] 99, .cells #[.string rngS] 99], #[], []⟩
 { w0 with heap := ((((((w0.heap.modify 0 (setAs #[.iface 97 (.pointer (some ⟨low, 0, none⟩))])).modify 1 (setAs #[.iface 97 (.pointer (some ⟨low + 1, 0, none⟩))])).modify 3 (setAs (flatAgg Rows.laid_internal_strconv_uint64pow10))).modify 4 (setAs (flatAgg Rows.laid_unicode_utf8_first))).modify 5 (setAs (flatAgg Rows.laid_unicode_utf8_acceptRanges))).modify 6 (setAs (flatAgg Rows.laid_math_bits_deBruijn32tab))).modify 7 (setAs (flatAgg Rows.laid_math_bits_deBruijn64tab)) }
theorem laidWorld_met (os : Os) (args : Array Value) : laidMetH Tryd.prog theList ((laidWorld os).forCall (fun _ _ => 0) ⟨#[], args, []⟩).memory := by
 rw [MakeChecks.laidMetH_plain _ _ _ plainList]
 exact laidMet_of_run3 8 (by kernel_rfl) (by kernel_rfl) (by kernel_rfl)
end Go.Proofs.YtdmnmfnmaccmoaaDoor

