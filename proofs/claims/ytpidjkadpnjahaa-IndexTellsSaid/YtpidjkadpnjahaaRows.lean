/-
  No cell of these rows narrows 'for every input' (looked for: loops, veiled, ifaces, maps, wideKeys, modest, calm, conditions, laid).
  DERIVED. THE GIVEN ROWS OF THIS SEAT. 14 by the template 'for every input the law returns true; each argument reads behind the call as it read before'; 0 by the template 'total and deterministic' (their statements: YtpidjkadpnjahaaTotals.lean).
  GIVEN WITH THE SEED: the statements are not yours to turn. If you find one false, say at which input.
  Laid BY PROGRAM, IN A SANDBOX (cutbox-rows.mjs): the forced cells as the released guide's own fill.sh prints them over the translation 9a59fa6555823f07… (all of the seat's roots in one cut). By AI agents, Wed Nov 11 2026. No macro, syntax, notation, axiom, sorry.
-/
import Derived.Test.YtpidjkadpnjahaaChecked
import GoSem.Claim
import GoSem.ClaimJoined
import GoSem.ClaimMapViews
import Derived.JoinedTies
import Derived.KernelRfl
namespace Go.Proofs.Ytpidjkadpnjahaa
/- THE CELL 'sum', in the pinned program and in every row, IS THE sha256 OF THE DUMP (.gsa) THAT YtpidjkadpnjahaaProg.lean LOADS. Nothing in Lean hashes anything: it is a label: what it is worth is what the hold of that sum in a sandbox is worth. -/
noncomputable def Try.pinned : Pinned := { name := "ytpidjkadpnjahaa", sum := "9a59fa6555823f07d7176f3493243c7d5bbe56ee123e8930bac4992a2b6cee86", checked := Try.checked }
namespace Rows
def none {H : Type} : Left H := { results := [], args := [] }

/-- 'sclaw1.SumTells': WHATEVER THE INPUT: true; the input reads as it did. -/
def sumTellsSpec : ChangeSpec := { name := "sumTells", fn := fun _ => fun
  | [d1, d2, d3, d4] => { results := [.lit (.bool true)], args := [d1, d2, d3, d4] }
  | _ => none }
def sumTellsRow : OpenClaim := { program := "ytpidjkadpnjahaa", sum := "9a59fa6555823f07d7176f3493243c7d5bbe56ee123e8930bac4992a2b6cee86", func := "scrubstore/sclaw1.SumTells", spec := "sumTells", apart := false }
def SumTellsSaid : Prop := sumTellsRow.holds Try.pinned (OpenSpec.ofChange sumTellsSpec)

/-- ITS FALSE NEIGHBOUR: 'it returns false'. Refute it at one input. -/
def sumTellsWrong : ChangeSpec := { name := "sumTells", fn := fun _ => fun
  | [d1, d2, d3, d4] => { results := [.lit (.bool false)], args := [d1, d2, d3, d4] }
  | _ => none }
def SumTellsWrongFalsely : Prop := sumTellsRow.holds Try.pinned (OpenSpec.ofChange sumTellsWrong)

/-- 'sclaw2.BlockTells': WHATEVER THE INPUT: true; the input reads as it did. -/
def blockTellsSpec : ChangeSpec := { name := "blockTells", fn := fun _ => fun
  | [d1, d2, d3, d4] => { results := [.lit (.bool true)], args := [d1, d2, d3, d4] }
  | _ => none }
def blockTellsRow : OpenClaim := { program := "ytpidjkadpnjahaa", sum := "9a59fa6555823f07d7176f3493243c7d5bbe56ee123e8930bac4992a2b6cee86", func := "scrubstore/sclaw2.BlockTells", spec := "blockTells", unfollowed := true, recurses := true, apart := false }
def BlockTellsSaid : Prop := blockTellsRow.holds Try.pinned (OpenSpec.ofChange blockTellsSpec)

/-- ITS FALSE NEIGHBOUR: 'it returns false'. Refute it at one input. -/
def blockTellsWrong : ChangeSpec := { name := "blockTells", fn := fun _ => fun
  | [d1, d2, d3, d4] => { results := [.lit (.bool false)], args := [d1, d2, d3, d4] }
  | _ => none }
def BlockTellsWrongFalsely : Prop := blockTellsRow.holds Try.pinned (OpenSpec.ofChange blockTellsWrong)

/-- 'sclaw3.DiskTells': WHATEVER THE INPUT: true; the input reads as it did. -/
def diskTellsSpec : ChangeSpec := { name := "diskTells", fn := fun _ => fun
  | [d1, d2, d3, d4] => { results := [.lit (.bool true)], args := [d1, d2, d3, d4] }
  | _ => none }
def diskTellsRow : OpenClaim := { program := "ytpidjkadpnjahaa", sum := "9a59fa6555823f07d7176f3493243c7d5bbe56ee123e8930bac4992a2b6cee86", func := "scrubstore/sclaw3.DiskTells", spec := "diskTells", apart := false }
def DiskTellsSaid : Prop := diskTellsRow.holds Try.pinned (OpenSpec.ofChange diskTellsSpec)

/-- ITS FALSE NEIGHBOUR: 'it returns false'. Refute it at one input. -/
def diskTellsWrong : ChangeSpec := { name := "diskTells", fn := fun _ => fun
  | [d1, d2, d3, d4] => { results := [.lit (.bool false)], args := [d1, d2, d3, d4] }
  | _ => none }
def DiskTellsWrongFalsely : Prop := diskTellsRow.holds Try.pinned (OpenSpec.ofChange diskTellsWrong)

/-- 'sclaw6.ModelTells': WHATEVER THE INPUT: true; the input reads as it did. -/
def modelTellsSpec : ChangeSpec := { name := "modelTells", fn := fun _ => fun
  | [d1, d2, d3, d4] => { results := [.lit (.bool true)], args := [d1, d2, d3, d4] }
  | _ => none }
def modelTellsRow : OpenClaim := { program := "ytpidjkadpnjahaa", sum := "9a59fa6555823f07d7176f3493243c7d5bbe56ee123e8930bac4992a2b6cee86", func := "scrubstore/sclaw6.ModelTells", spec := "modelTells", unfollowed := true, recurses := true, apart := false }
def ModelTellsSaid : Prop := modelTellsRow.holds Try.pinned (OpenSpec.ofChange modelTellsSpec)

/-- ITS FALSE NEIGHBOUR: 'it returns false'. Refute it at one input. -/
def modelTellsWrong : ChangeSpec := { name := "modelTells", fn := fun _ => fun
  | [d1, d2, d3, d4] => { results := [.lit (.bool false)], args := [d1, d2, d3, d4] }
  | _ => none }
def ModelTellsWrongFalsely : Prop := modelTellsRow.holds Try.pinned (OpenSpec.ofChange modelTellsWrong)

/-- 'sclaw4.PairTells': WHATEVER THE INPUT: true; the input reads as it did. -/
def pairTellsSpec : ChangeSpec := { name := "pairTells", fn := fun _ => fun
  | [d1, d2, d3] => { results := [.lit (.bool true)], args := [d1, d2, d3] }
  | _ => none }
def pairTellsRow : OpenClaim := { program := "ytpidjkadpnjahaa", sum := "9a59fa6555823f07d7176f3493243c7d5bbe56ee123e8930bac4992a2b6cee86", func := "scrubstore/sclaw4.PairTells", spec := "pairTells", unfollowed := true, recurses := true, apart := false }
def PairTellsSaid : Prop := pairTellsRow.holds Try.pinned (OpenSpec.ofChange pairTellsSpec)

/-- ITS FALSE NEIGHBOUR: 'it returns false'. Refute it at one input. -/
def pairTellsWrong : ChangeSpec := { name := "pairTells", fn := fun _ => fun
  | [d1, d2, d3] => { results := [.lit (.bool false)], args := [d1, d2, d3] }
  | _ => none }
def PairTellsWrongFalsely : Prop := pairTellsRow.holds Try.pinned (OpenSpec.ofChange pairTellsWrong)

/-- 'sclaw5.IndexTells': WHATEVER THE INPUT: true; the input reads as it did. -/
def indexTellsSpec : ChangeSpec := { name := "indexTells", fn := fun _ => fun
  | [d1, d2, d3, d4, d5, d6] => { results := [.lit (.bool true)], args := [d1, d2, d3, d4, d5, d6] }
  | _ => none }
def indexTellsRow : OpenClaim := { program := "ytpidjkadpnjahaa", sum := "9a59fa6555823f07d7176f3493243c7d5bbe56ee123e8930bac4992a2b6cee86", func := "scrubstore/sclaw5.IndexTells", spec := "indexTells", unfollowed := true, recurses := true, apart := false }
def IndexTellsSaid : Prop := indexTellsRow.holds Try.pinned (OpenSpec.ofChange indexTellsSpec)

/-- ITS FALSE NEIGHBOUR: 'it returns false'. Refute it at one input. -/
def indexTellsWrong : ChangeSpec := { name := "indexTells", fn := fun _ => fun
  | [d1, d2, d3, d4, d5, d6] => { results := [.lit (.bool false)], args := [d1, d2, d3, d4, d5, d6] }
  | _ => none }
def IndexTellsWrongFalsely : Prop := indexTellsRow.holds Try.pinned (OpenSpec.ofChange indexTellsWrong)

/-- 'sclaw10.FsckTells': WHATEVER THE INPUT: true; the input reads as it did. -/
def fsckTellsSpec : ChangeSpec := { name := "fsckTells", fn := fun _ => fun
  | [d1, d2] => { results := [.lit (.bool true)], args := [d1, d2] }
  | _ => none }
def fsckTellsRow : OpenClaim := { program := "ytpidjkadpnjahaa", sum := "9a59fa6555823f07d7176f3493243c7d5bbe56ee123e8930bac4992a2b6cee86", func := "scrubstore/sclaw10.FsckTells", spec := "fsckTells", unfollowed := true, recurses := true, apart := false }
def FsckTellsSaid : Prop := fsckTellsRow.holds Try.pinned (OpenSpec.ofChange fsckTellsSpec)

/-- ITS FALSE NEIGHBOUR: 'it returns false'. Refute it at one input. -/
def fsckTellsWrong : ChangeSpec := { name := "fsckTells", fn := fun _ => fun
  | [d1, d2] => { results := [.lit (.bool false)], args := [d1, d2] }
  | _ => none }
def FsckTellsWrongFalsely : Prop := fsckTellsRow.holds Try.pinned (OpenSpec.ofChange fsckTellsWrong)

/-- 'sclaw10.FsckOrder': WHATEVER THE INPUT: true; the input reads as it did. -/
def fsckOrderSpec : ChangeSpec := { name := "fsckOrder", fn := fun _ => fun
  | [d] => { results := [.lit (.bool true)], args := [d] }
  | _ => none }
def fsckOrderRow : OpenClaim := { program := "ytpidjkadpnjahaa", sum := "9a59fa6555823f07d7176f3493243c7d5bbe56ee123e8930bac4992a2b6cee86", func := "scrubstore/sclaw10.FsckOrder", spec := "fsckOrder", unfollowed := true, recurses := true, apart := false }
def FsckOrderSaid : Prop := fsckOrderRow.holds Try.pinned (OpenSpec.ofChange fsckOrderSpec)

/-- ITS FALSE NEIGHBOUR: 'it returns false'. Refute it at one input. -/
def fsckOrderWrong : ChangeSpec := { name := "fsckOrder", fn := fun _ => fun
  | [d] => { results := [.lit (.bool false)], args := [d] }
  | _ => none }
def FsckOrderWrongFalsely : Prop := fsckOrderRow.holds Try.pinned (OpenSpec.ofChange fsckOrderWrong)

/-- 'sclaw10.FsckKeeps': WHATEVER THE INPUT: true; the input reads as it did. -/
def fsckKeepsSpec : ChangeSpec := { name := "fsckKeeps", fn := fun _ => fun
  | [d] => { results := [.lit (.bool true)], args := [d] }
  | _ => none }
def fsckKeepsRow : OpenClaim := { program := "ytpidjkadpnjahaa", sum := "9a59fa6555823f07d7176f3493243c7d5bbe56ee123e8930bac4992a2b6cee86", func := "scrubstore/sclaw10.FsckKeeps", spec := "fsckKeeps", unfollowed := true, recurses := true, apart := false }
def FsckKeepsSaid : Prop := fsckKeepsRow.holds Try.pinned (OpenSpec.ofChange fsckKeepsSpec)

/-- ITS FALSE NEIGHBOUR: 'it returns false'. Refute it at one input. -/
def fsckKeepsWrong : ChangeSpec := { name := "fsckKeeps", fn := fun _ => fun
  | [d] => { results := [.lit (.bool false)], args := [d] }
  | _ => none }
def FsckKeepsWrongFalsely : Prop := fsckKeepsRow.holds Try.pinned (OpenSpec.ofChange fsckKeepsWrong)

/-- 'sclaw9.ScrubTells': WHATEVER THE INPUT: true; the input reads as it did. -/
def scrubTellsSpec : ChangeSpec := { name := "scrubTells", fn := fun _ => fun
  | [d] => { results := [.lit (.bool true)], args := [d] }
  | _ => none }
def scrubTellsRow : OpenClaim := { program := "ytpidjkadpnjahaa", sum := "9a59fa6555823f07d7176f3493243c7d5bbe56ee123e8930bac4992a2b6cee86", func := "scrubstore/sclaw9.ScrubTells", spec := "scrubTells", unfollowed := true, recurses := true, apart := false }
def ScrubTellsSaid : Prop := scrubTellsRow.holds Try.pinned (OpenSpec.ofChange scrubTellsSpec)

/-- ITS FALSE NEIGHBOUR: 'it returns false'. Refute it at one input. -/
def scrubTellsWrong : ChangeSpec := { name := "scrubTells", fn := fun _ => fun
  | [d] => { results := [.lit (.bool false)], args := [d] }
  | _ => none }
def ScrubTellsWrongFalsely : Prop := scrubTellsRow.holds Try.pinned (OpenSpec.ofChange scrubTellsWrong)

/-- 'sclaw9.ScrubAll': WHATEVER THE INPUT: true; the input reads as it did. -/
def scrubAllSpec : ChangeSpec := { name := "scrubAll", fn := fun _ => fun
  | [d] => { results := [.lit (.bool true)], args := [d] }
  | _ => none }
def scrubAllRow : OpenClaim := { program := "ytpidjkadpnjahaa", sum := "9a59fa6555823f07d7176f3493243c7d5bbe56ee123e8930bac4992a2b6cee86", func := "scrubstore/sclaw9.ScrubAll", spec := "scrubAll", unfollowed := true, recurses := true, apart := false }
def ScrubAllSaid : Prop := scrubAllRow.holds Try.pinned (OpenSpec.ofChange scrubAllSpec)

/-- ITS FALSE NEIGHBOUR: 'it returns false'. Refute it at one input. -/
def scrubAllWrong : ChangeSpec := { name := "scrubAll", fn := fun _ => fun
  | [d] => { results := [.lit (.bool false)], args := [d] }
  | _ => none }
def ScrubAllWrongFalsely : Prop := scrubAllRow.holds Try.pinned (OpenSpec.ofChange scrubAllWrong)

/-- 'sclaw9.ScrubTwice': WHATEVER THE INPUT: true; the input reads as it did. -/
def scrubTwiceSpec : ChangeSpec := { name := "scrubTwice", fn := fun _ => fun
  | [d] => { results := [.lit (.bool true)], args := [d] }
  | _ => none }
def scrubTwiceRow : OpenClaim := { program := "ytpidjkadpnjahaa", sum := "9a59fa6555823f07d7176f3493243c7d5bbe56ee123e8930bac4992a2b6cee86", func := "scrubstore/sclaw9.ScrubTwice", spec := "scrubTwice", unfollowed := true, recurses := true, apart := false }
def ScrubTwiceSaid : Prop := scrubTwiceRow.holds Try.pinned (OpenSpec.ofChange scrubTwiceSpec)

/-- ITS FALSE NEIGHBOUR: 'it returns false'. Refute it at one input. -/
def scrubTwiceWrong : ChangeSpec := { name := "scrubTwice", fn := fun _ => fun
  | [d] => { results := [.lit (.bool false)], args := [d] }
  | _ => none }
def ScrubTwiceWrongFalsely : Prop := scrubTwiceRow.holds Try.pinned (OpenSpec.ofChange scrubTwiceWrong)

/-- 'sclaw5.IndexBack': WHATEVER THE INPUT: true; the input reads as it did. -/
def indexBackSpec : ChangeSpec := { name := "indexBack", fn := fun _ => fun
  | [d1, d2] => { results := [.lit (.bool true)], args := [d1, d2] }
  | _ => none }
def indexBackRow : OpenClaim := { program := "ytpidjkadpnjahaa", sum := "9a59fa6555823f07d7176f3493243c7d5bbe56ee123e8930bac4992a2b6cee86", func := "scrubstore/sclaw5.IndexBack", spec := "indexBack", unfollowed := true, recurses := true, apart := false }
def IndexBackSaid : Prop := indexBackRow.holds Try.pinned (OpenSpec.ofChange indexBackSpec)

/-- ITS FALSE NEIGHBOUR: 'it returns false'. Refute it at one input. -/
def indexBackWrong : ChangeSpec := { name := "indexBack", fn := fun _ => fun
  | [d1, d2] => { results := [.lit (.bool false)], args := [d1, d2] }
  | _ => none }
def IndexBackWrongFalsely : Prop := indexBackRow.holds Try.pinned (OpenSpec.ofChange indexBackWrong)

/-- 'sclaw5.IndexScan': WHATEVER THE INPUT: true; the input reads as it did. -/
def indexScanSpec : ChangeSpec := { name := "indexScan", fn := fun _ => fun
  | [d] => { results := [.lit (.bool true)], args := [d] }
  | _ => none }
def indexScanRow : OpenClaim := { program := "ytpidjkadpnjahaa", sum := "9a59fa6555823f07d7176f3493243c7d5bbe56ee123e8930bac4992a2b6cee86", func := "scrubstore/sclaw5.IndexScan", spec := "indexScan", unfollowed := true, recurses := true, apart := false }
def IndexScanSaid : Prop := indexScanRow.holds Try.pinned (OpenSpec.ofChange indexScanSpec)

/-- ITS FALSE NEIGHBOUR: 'it returns false'. Refute it at one input. -/
def indexScanWrong : ChangeSpec := { name := "indexScan", fn := fun _ => fun
  | [d] => { results := [.lit (.bool false)], args := [d] }
  | _ => none }
def IndexScanWrongFalsely : Prop := indexScanRow.holds Try.pinned (OpenSpec.ofChange indexScanWrong)

/- THE SECOND FORM. 'bulk': how many values and letters a reading holds, each counted each time it is reached (what is shared counts as often as it is met; a slice's spare places count too). A statement '..UptoSaid' is the law's where the arguments, and the package variables that the reading takes, are together of bulk at most 1048576: NARROWER than '..Said'. Prove '..Said' where nothing that the law and all that it calls make is longer than what came in: it says more and counts as full. Else prove '..UptoSaid'. A law counts once. -/
mutual
def uptoBulk {H : Type} : DataW H → Nat
  | .lit (.string bytes) => bytes.length + 1
  | .lit _ => 1
  | .nil => 1
  | .ptr d => uptoBulk d + 1
  | .slice elems spare => uptoBulkAll elems + uptoBulkAll spare + 1
  | .agg parts => uptoBulkAll parts + 1
  | .iface _ d => uptoBulk d + 1
  | .map entries => uptoBulkEntries entries + 1
  | .held _ => 1
def uptoBulkAll {H : Type} : List (DataW H) → Nat
  | [] => 0
  | d :: r => uptoBulk d + uptoBulkAll r
def uptoBulkEntries {H : Type} : List (Lit × DataW H) → Nat
  | [] => 0
  | x :: r => uptoBulkEntry x + uptoBulkEntries r
def uptoBulkEntry {H : Type} : Lit × DataW H → Nat
  | (.string bytes, d) => bytes.length + uptoBulk d + 1
  | (_, d) => uptoBulk d + 1
 end
def uptoSmall : (H : Type) → List (DataW H) → Bool := fun _ ds => decide (uptoBulkAll ds ≤ 1048576)
def OpenSpec.upto (s : _root_.Go.ChangeSpec) : _root_.Go.OpenSpec := { _root_.Go.OpenSpec.ofChange s with cond := some uptoSmall }

/-- 'sclaw1.SumTells', WHERE WHAT IT READS IS OF BULK AT MOST 1048576: true; the input reads as it did. -/
def sumTellsUptoRow : OpenClaim := { program := "ytpidjkadpnjahaa", sum := "9a59fa6555823f07d7176f3493243c7d5bbe56ee123e8930bac4992a2b6cee86", func := "scrubstore/sclaw1.SumTells", spec := "sumTells", apart := false, narrowed := true }
def SumTellsUptoSaid : Prop := sumTellsUptoRow.holds Try.pinned (OpenSpec.upto sumTellsSpec)

/-- 'sclaw2.BlockTells', WHERE WHAT IT READS IS OF BULK AT MOST 1048576: true; the input reads as it did. -/
def blockTellsUptoRow : OpenClaim := { program := "ytpidjkadpnjahaa", sum := "9a59fa6555823f07d7176f3493243c7d5bbe56ee123e8930bac4992a2b6cee86", func := "scrubstore/sclaw2.BlockTells", spec := "blockTells", unfollowed := true, recurses := true, apart := false, narrowed := true }
def BlockTellsUptoSaid : Prop := blockTellsUptoRow.holds Try.pinned (OpenSpec.upto blockTellsSpec)

/-- 'sclaw3.DiskTells', WHERE WHAT IT READS IS OF BULK AT MOST 1048576: true; the input reads as it did. -/
def diskTellsUptoRow : OpenClaim := { program := "ytpidjkadpnjahaa", sum := "9a59fa6555823f07d7176f3493243c7d5bbe56ee123e8930bac4992a2b6cee86", func := "scrubstore/sclaw3.DiskTells", spec := "diskTells", apart := false, narrowed := true }
def DiskTellsUptoSaid : Prop := diskTellsUptoRow.holds Try.pinned (OpenSpec.upto diskTellsSpec)

/-- 'sclaw6.ModelTells', WHERE WHAT IT READS IS OF BULK AT MOST 1048576: true; the input reads as it did. -/
def modelTellsUptoRow : OpenClaim := { program := "ytpidjkadpnjahaa", sum := "9a59fa6555823f07d7176f3493243c7d5bbe56ee123e8930bac4992a2b6cee86", func := "scrubstore/sclaw6.ModelTells", spec := "modelTells", unfollowed := true, recurses := true, apart := false, narrowed := true }
def ModelTellsUptoSaid : Prop := modelTellsUptoRow.holds Try.pinned (OpenSpec.upto modelTellsSpec)

/-- 'sclaw4.PairTells', WHERE WHAT IT READS IS OF BULK AT MOST 1048576: true; the input reads as it did. -/
def pairTellsUptoRow : OpenClaim := { program := "ytpidjkadpnjahaa", sum := "9a59fa6555823f07d7176f3493243c7d5bbe56ee123e8930bac4992a2b6cee86", func := "scrubstore/sclaw4.PairTells", spec := "pairTells", unfollowed := true, recurses := true, apart := false, narrowed := true }
def PairTellsUptoSaid : Prop := pairTellsUptoRow.holds Try.pinned (OpenSpec.upto pairTellsSpec)

/-- 'sclaw5.IndexTells', WHERE WHAT IT READS IS OF BULK AT MOST 1048576: true; the input reads as it did. -/
def indexTellsUptoRow : OpenClaim := { program := "ytpidjkadpnjahaa", sum := "9a59fa6555823f07d7176f3493243c7d5bbe56ee123e8930bac4992a2b6cee86", func := "scrubstore/sclaw5.IndexTells", spec := "indexTells", unfollowed := true, recurses := true, apart := false, narrowed := true }
def IndexTellsUptoSaid : Prop := indexTellsUptoRow.holds Try.pinned (OpenSpec.upto indexTellsSpec)

/-- 'sclaw10.FsckTells', WHERE WHAT IT READS IS OF BULK AT MOST 1048576: true; the input reads as it did. -/
def fsckTellsUptoRow : OpenClaim := { program := "ytpidjkadpnjahaa", sum := "9a59fa6555823f07d7176f3493243c7d5bbe56ee123e8930bac4992a2b6cee86", func := "scrubstore/sclaw10.FsckTells", spec := "fsckTells", unfollowed := true, recurses := true, apart := false, narrowed := true }
def FsckTellsUptoSaid : Prop := fsckTellsUptoRow.holds Try.pinned (OpenSpec.upto fsckTellsSpec)

/-- 'sclaw10.FsckOrder', WHERE WHAT IT READS IS OF BULK AT MOST 1048576: true; the input reads as it did. -/
def fsckOrderUptoRow : OpenClaim := { program := "ytpidjkadpnjahaa", sum := "9a59fa6555823f07d7176f3493243c7d5bbe56ee123e8930bac4992a2b6cee86", func := "scrubstore/sclaw10.FsckOrder", spec := "fsckOrder", unfollowed := true, recurses := true, apart := false, narrowed := true }
def FsckOrderUptoSaid : Prop := fsckOrderUptoRow.holds Try.pinned (OpenSpec.upto fsckOrderSpec)

/-- 'sclaw10.FsckKeeps', WHERE WHAT IT READS IS OF BULK AT MOST 1048576: true; the input reads as it did. -/
def fsckKeepsUptoRow : OpenClaim := { program := "ytpidjkadpnjahaa", sum := "9a59fa6555823f07d7176f3493243c7d5bbe56ee123e8930bac4992a2b6cee86", func := "scrubstore/sclaw10.FsckKeeps", spec := "fsckKeeps", unfollowed := true, recurses := true, apart := false, narrowed := true }
def FsckKeepsUptoSaid : Prop := fsckKeepsUptoRow.holds Try.pinned (OpenSpec.upto fsckKeepsSpec)

/-- 'sclaw9.ScrubTells', WHERE WHAT IT READS IS OF BULK AT MOST 1048576: true; the input reads as it did. -/
def scrubTellsUptoRow : OpenClaim := { program := "ytpidjkadpnjahaa", sum := "9a59fa6555823f07d7176f3493243c7d5bbe56ee123e8930bac4992a2b6cee86", func := "scrubstore/sclaw9.ScrubTells", spec := "scrubTells", unfollowed := true, recurses := true, apart := false, narrowed := true }
def ScrubTellsUptoSaid : Prop := scrubTellsUptoRow.holds Try.pinned (OpenSpec.upto scrubTellsSpec)

/-- 'sclaw9.ScrubAll', WHERE WHAT IT READS IS OF BULK AT MOST 1048576: true; the input reads as it did. -/
def scrubAllUptoRow : OpenClaim := { program := "ytpidjkadpnjahaa", sum := "9a59fa6555823f07d7176f3493243c7d5bbe56ee123e8930bac4992a2b6cee86", func := "scrubstore/sclaw9.ScrubAll", spec := "scrubAll", unfollowed := true, recurses := true, apart := false, narrowed := true }
def ScrubAllUptoSaid : Prop := scrubAllUptoRow.holds Try.pinned (OpenSpec.upto scrubAllSpec)

/-- 'sclaw9.ScrubTwice', WHERE WHAT IT READS IS OF BULK AT MOST 1048576: true; the input reads as it did. -/
def scrubTwiceUptoRow : OpenClaim := { program := "ytpidjkadpnjahaa", sum := "9a59fa6555823f07d7176f3493243c7d5bbe56ee123e8930bac4992a2b6cee86", func := "scrubstore/sclaw9.ScrubTwice", spec := "scrubTwice", unfollowed := true, recurses := true, apart := false, narrowed := true }
def ScrubTwiceUptoSaid : Prop := scrubTwiceUptoRow.holds Try.pinned (OpenSpec.upto scrubTwiceSpec)

/-- 'sclaw5.IndexBack', WHERE WHAT IT READS IS OF BULK AT MOST 1048576: true; the input reads as it did. -/
def indexBackUptoRow : OpenClaim := { program := "ytpidjkadpnjahaa", sum := "9a59fa6555823f07d7176f3493243c7d5bbe56ee123e8930bac4992a2b6cee86", func := "scrubstore/sclaw5.IndexBack", spec := "indexBack", unfollowed := true, recurses := true, apart := false, narrowed := true }
def IndexBackUptoSaid : Prop := indexBackUptoRow.holds Try.pinned (OpenSpec.upto indexBackSpec)

/-- 'sclaw5.IndexScan', WHERE WHAT IT READS IS OF BULK AT MOST 1048576: true; the input reads as it did. -/
def indexScanUptoRow : OpenClaim := { program := "ytpidjkadpnjahaa", sum := "9a59fa6555823f07d7176f3493243c7d5bbe56ee123e8930bac4992a2b6cee86", func := "scrubstore/sclaw5.IndexScan", spec := "indexScan", unfollowed := true, recurses := true, apart := false, narrowed := true }
def IndexScanUptoSaid : Prop := indexScanUptoRow.holds Try.pinned (OpenSpec.upto indexScanSpec)

end Rows
end Go.Proofs.Ytpidjkadpnjahaa
