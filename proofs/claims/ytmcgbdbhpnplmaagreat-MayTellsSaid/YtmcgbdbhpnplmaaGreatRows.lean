/-
  No cell of these rows narrows 'for every input' (looked for: loops, veiled, ifaces, maps, wideKeys, modest, calm, conditions, laid).
  DERIVED. THE GIVEN ROWS OF THIS SEAT. 10 by the template 'for every input the law returns true; each argument reads behind the call as it read before'; 0 by the template 'total and deterministic' (their statements: YtmcgbdbhpnplmaaGreatTotals.lean).
  GIVEN WITH THE SEED: the statements are not yours to turn. If you find one false, say at which input.
  Laid BY PROGRAM, IN A SANDBOX (cutbox-rows.mjs): the forced cells as the released guide's own fill.sh prints them over the translation 8c2134d04c428749… (all of the seat's roots in one cut). By AI agents, Wed Nov 11 2026. No macro, syntax, notation, axiom, sorry.
-/
import Derived.Test.YtmcgbdbhpnplmaaGreatChecked
import GoSem.Claim
import GoSem.ClaimJoined
import GoSem.ClaimMapViews
import Derived.JoinedTies
import Derived.KernelRfl
namespace Go.Proofs.YtmcgbdbhpnplmaaGreat
/- THE CELL 'sum', in the pinned program and in every row, IS THE sha256 OF THE DUMP (.gsa) THAT YtmcgbdbhpnplmaaGreatProg.lean LOADS. Nothing in Lean hashes anything: it is a label: what it is worth is what the hold of that sum in a sandbox is worth. -/
noncomputable def Tryz.pinned : Pinned := { name := "ytmcgbdbhpnplmaagreat", sum := "8c2134d04c428749ce0f9631fa87f90819ad83b75e1367a2b57b9bddcfd48ade", checked := Tryz.checked }
namespace Rows
def none {H : Type} : Left H := { results := [], args := [] }

/-- 'sclaw8.StoreTells': WHATEVER THE INPUT: true; the input reads as it did. -/
def storeTellsSpec : ChangeSpec := { name := "storeTells", fn := fun _ => fun
  | [d1, d2, d3, d4] => { results := [.lit (.bool true)], args := [d1, d2, d3, d4] }
  | _ => none }
def storeTellsRow : OpenClaim := { program := "ytmcgbdbhpnplmaagreat", sum := "8c2134d04c428749ce0f9631fa87f90819ad83b75e1367a2b57b9bddcfd48ade", func := "scrubstore/sclaw8.StoreTells", spec := "storeTells", unfollowed := true, recurses := true, apart := false }
def StoreTellsSaid : Prop := storeTellsRow.holds Tryz.pinned (OpenSpec.ofChange storeTellsSpec)

/-- ITS FALSE NEIGHBOUR: 'it returns false'. Refute it at one input. -/
def storeTellsWrong : ChangeSpec := { name := "storeTells", fn := fun _ => fun
  | [d1, d2, d3, d4] => { results := [.lit (.bool false)], args := [d1, d2, d3, d4] }
  | _ => none }
def StoreTellsWrongFalsely : Prop := storeTellsRow.holds Tryz.pinned (OpenSpec.ofChange storeTellsWrong)

/-- 'sclaw8.StoreModel': WHATEVER THE INPUT: true; the input reads as it did. -/
def storeModelSpec : ChangeSpec := { name := "storeModel", fn := fun _ => fun
  | [d1, d2] => { results := [.lit (.bool true)], args := [d1, d2] }
  | _ => none }
def storeModelRow : OpenClaim := { program := "ytmcgbdbhpnplmaagreat", sum := "8c2134d04c428749ce0f9631fa87f90819ad83b75e1367a2b57b9bddcfd48ade", func := "scrubstore/sclaw8.StoreModel", spec := "storeModel", unfollowed := true, recurses := true, apart := false }
def StoreModelSaid : Prop := storeModelRow.holds Tryz.pinned (OpenSpec.ofChange storeModelSpec)

/-- ITS FALSE NEIGHBOUR: 'it returns false'. Refute it at one input. -/
def storeModelWrong : ChangeSpec := { name := "storeModel", fn := fun _ => fun
  | [d1, d2] => { results := [.lit (.bool false)], args := [d1, d2] }
  | _ => none }
def StoreModelWrongFalsely : Prop := storeModelRow.holds Tryz.pinned (OpenSpec.ofChange storeModelWrong)

/-- 'sclaw8.StorePages': WHATEVER THE INPUT: true; the input reads as it did. -/
def storePagesSpec : ChangeSpec := { name := "storePages", fn := fun _ => fun
  | [d1, d2] => { results := [.lit (.bool true)], args := [d1, d2] }
  | _ => none }
def storePagesRow : OpenClaim := { program := "ytmcgbdbhpnplmaagreat", sum := "8c2134d04c428749ce0f9631fa87f90819ad83b75e1367a2b57b9bddcfd48ade", func := "scrubstore/sclaw8.StorePages", spec := "storePages", unfollowed := true, recurses := true, apart := false }
def StorePagesSaid : Prop := storePagesRow.holds Tryz.pinned (OpenSpec.ofChange storePagesSpec)

/-- ITS FALSE NEIGHBOUR: 'it returns false'. Refute it at one input. -/
def storePagesWrong : ChangeSpec := { name := "storePages", fn := fun _ => fun
  | [d1, d2] => { results := [.lit (.bool false)], args := [d1, d2] }
  | _ => none }
def StorePagesWrongFalsely : Prop := storePagesRow.holds Tryz.pinned (OpenSpec.ofChange storePagesWrong)

/-- 'sclaw8.StoreHalf': WHATEVER THE INPUT: true; the input reads as it did. -/
def storeHalfSpec : ChangeSpec := { name := "storeHalf", fn := fun _ => fun
  | [d1, d2, d3] => { results := [.lit (.bool true)], args := [d1, d2, d3] }
  | _ => none }
def storeHalfRow : OpenClaim := { program := "ytmcgbdbhpnplmaagreat", sum := "8c2134d04c428749ce0f9631fa87f90819ad83b75e1367a2b57b9bddcfd48ade", func := "scrubstore/sclaw8.StoreHalf", spec := "storeHalf", unfollowed := true, recurses := true, apart := false }
def StoreHalfSaid : Prop := storeHalfRow.holds Tryz.pinned (OpenSpec.ofChange storeHalfSpec)

/-- ITS FALSE NEIGHBOUR: 'it returns false'. Refute it at one input. -/
def storeHalfWrong : ChangeSpec := { name := "storeHalf", fn := fun _ => fun
  | [d1, d2, d3] => { results := [.lit (.bool false)], args := [d1, d2, d3] }
  | _ => none }
def StoreHalfWrongFalsely : Prop := storeHalfRow.holds Tryz.pinned (OpenSpec.ofChange storeHalfWrong)

/-- 'sclaw11.PlayTells': WHATEVER THE INPUT: true; the input reads as it did. -/
def playTellsSpec : ChangeSpec := { name := "playTells", fn := fun _ => fun
  | [d1, d2] => { results := [.lit (.bool true)], args := [d1, d2] }
  | _ => none }
def playTellsRow : OpenClaim := { program := "ytmcgbdbhpnplmaagreat", sum := "8c2134d04c428749ce0f9631fa87f90819ad83b75e1367a2b57b9bddcfd48ade", func := "scrubstore/sclaw11.PlayTells", spec := "playTells", unfollowed := true, recurses := true, apart := false }
def PlayTellsSaid : Prop := playTellsRow.holds Tryz.pinned (OpenSpec.ofChange playTellsSpec)

/-- ITS FALSE NEIGHBOUR: 'it returns false'. Refute it at one input. -/
def playTellsWrong : ChangeSpec := { name := "playTells", fn := fun _ => fun
  | [d1, d2] => { results := [.lit (.bool false)], args := [d1, d2] }
  | _ => none }
def PlayTellsWrongFalsely : Prop := playTellsRow.holds Tryz.pinned (OpenSpec.ofChange playTellsWrong)

/-- 'sclaw11.PlaySafe': WHATEVER THE INPUT: true; the input reads as it did. -/
def playSafeSpec : ChangeSpec := { name := "playSafe", fn := fun _ => fun
  | [d1, d2, d3] => { results := [.lit (.bool true)], args := [d1, d2, d3] }
  | _ => none }
def playSafeRow : OpenClaim := { program := "ytmcgbdbhpnplmaagreat", sum := "8c2134d04c428749ce0f9631fa87f90819ad83b75e1367a2b57b9bddcfd48ade", func := "scrubstore/sclaw11.PlaySafe", spec := "playSafe", unfollowed := true, recurses := true, apart := false }
def PlaySafeSaid : Prop := playSafeRow.holds Tryz.pinned (OpenSpec.ofChange playSafeSpec)

/-- ITS FALSE NEIGHBOUR: 'it returns false'. Refute it at one input. -/
def playSafeWrong : ChangeSpec := { name := "playSafe", fn := fun _ => fun
  | [d1, d2, d3] => { results := [.lit (.bool false)], args := [d1, d2, d3] }
  | _ => none }
def PlaySafeWrongFalsely : Prop := playSafeRow.holds Tryz.pinned (OpenSpec.ofChange playSafeWrong)

/-- 'sclaw11.PlayFits': WHATEVER THE INPUT: true; the input reads as it did. -/
def playFitsSpec : ChangeSpec := { name := "playFits", fn := fun _ => fun
  | [d1, d2] => { results := [.lit (.bool true)], args := [d1, d2] }
  | _ => none }
def playFitsRow : OpenClaim := { program := "ytmcgbdbhpnplmaagreat", sum := "8c2134d04c428749ce0f9631fa87f90819ad83b75e1367a2b57b9bddcfd48ade", func := "scrubstore/sclaw11.PlayFits", spec := "playFits", unfollowed := true, recurses := true, apart := false }
def PlayFitsSaid : Prop := playFitsRow.holds Tryz.pinned (OpenSpec.ofChange playFitsSpec)

/-- ITS FALSE NEIGHBOUR: 'it returns false'. Refute it at one input. -/
def playFitsWrong : ChangeSpec := { name := "playFits", fn := fun _ => fun
  | [d1, d2] => { results := [.lit (.bool false)], args := [d1, d2] }
  | _ => none }
def PlayFitsWrongFalsely : Prop := playFitsRow.holds Tryz.pinned (OpenSpec.ofChange playFitsWrong)

/-- 'sclaw12.MayTells': WHATEVER THE INPUT: true; the input reads as it did. -/
def mayTellsSpec : ChangeSpec := { name := "mayTells", fn := fun _ => fun
  | [d1, d2, d3] => { results := [.lit (.bool true)], args := [d1, d2, d3] }
  | _ => none }
def mayTellsRow : OpenClaim := { program := "ytmcgbdbhpnplmaagreat", sum := "8c2134d04c428749ce0f9631fa87f90819ad83b75e1367a2b57b9bddcfd48ade", func := "scrubstore/sclaw12.MayTells", spec := "mayTells", unfollowed := true, recurses := true, apart := false }
def MayTellsSaid : Prop := mayTellsRow.holds Tryz.pinned (OpenSpec.ofChange mayTellsSpec)

/-- ITS FALSE NEIGHBOUR: 'it returns false'. Refute it at one input. -/
def mayTellsWrong : ChangeSpec := { name := "mayTells", fn := fun _ => fun
  | [d1, d2, d3] => { results := [.lit (.bool false)], args := [d1, d2, d3] }
  | _ => none }
def MayTellsWrongFalsely : Prop := mayTellsRow.holds Tryz.pinned (OpenSpec.ofChange mayTellsWrong)

/-- 'sclaw12.MayFew': WHATEVER THE INPUT: true; the input reads as it did. -/
def mayFewSpec : ChangeSpec := { name := "mayFew", fn := fun _ => fun
  | [d1, d2] => { results := [.lit (.bool true)], args := [d1, d2] }
  | _ => none }
def mayFewRow : OpenClaim := { program := "ytmcgbdbhpnplmaagreat", sum := "8c2134d04c428749ce0f9631fa87f90819ad83b75e1367a2b57b9bddcfd48ade", func := "scrubstore/sclaw12.MayFew", spec := "mayFew", unfollowed := true, recurses := true, apart := false }
def MayFewSaid : Prop := mayFewRow.holds Tryz.pinned (OpenSpec.ofChange mayFewSpec)

/-- ITS FALSE NEIGHBOUR: 'it returns false'. Refute it at one input. -/
def mayFewWrong : ChangeSpec := { name := "mayFew", fn := fun _ => fun
  | [d1, d2] => { results := [.lit (.bool false)], args := [d1, d2] }
  | _ => none }
def MayFewWrongFalsely : Prop := mayFewRow.holds Tryz.pinned (OpenSpec.ofChange mayFewWrong)

/-- 'sclaw12.MayWalk': WHATEVER THE INPUT: true; the input reads as it did. -/
def mayWalkSpec : ChangeSpec := { name := "mayWalk", fn := fun _ => fun
  | [d] => { results := [.lit (.bool true)], args := [d] }
  | _ => none }
def mayWalkRow : OpenClaim := { program := "ytmcgbdbhpnplmaagreat", sum := "8c2134d04c428749ce0f9631fa87f90819ad83b75e1367a2b57b9bddcfd48ade", func := "scrubstore/sclaw12.MayWalk", spec := "mayWalk", unfollowed := true, recurses := true, apart := false }
def MayWalkSaid : Prop := mayWalkRow.holds Tryz.pinned (OpenSpec.ofChange mayWalkSpec)

/-- ITS FALSE NEIGHBOUR: 'it returns false'. Refute it at one input. -/
def mayWalkWrong : ChangeSpec := { name := "mayWalk", fn := fun _ => fun
  | [d] => { results := [.lit (.bool false)], args := [d] }
  | _ => none }
def MayWalkWrongFalsely : Prop := mayWalkRow.holds Tryz.pinned (OpenSpec.ofChange mayWalkWrong)

/- THE SECOND FORM. 'bulk': how many values and letters a reading holds, each counted each time it is reached (what is shared counts as often as it is met; a slice's spare places count too). A statement '..UptoSaid' is the law's where the arguments, and the package variables that the reading takes, are together of bulk at most 1048576: NARROWER than '..Said'. Prove '..Said' where nothing that the law and all that it calls make is longer than what came in: it says more and counts as full. Else prove '..UptoSaid'. A law counts once. -/
mutual
def uptoBulk {H : Type} : DataW H → Nat
  | .lit (.string bytes) => bytes.length + 1
  | .lit _ => 1
  | .nil => 1
  | .ptr d => uptoBulk d + 1
  | .slice elems spare => uptoBulkAll elems + uptoBulkAll spare + 1
  | .agg parts => uptoBulkAll parts + 1
  | .iface _ d => uptoBulk d + 1
  | .map entries => uptoBulkEntries entries + 1
  | .held _ => 1
def uptoBulkAll {H : Type} : List (DataW H) → Nat
  | [] => 0
  | d :: r => uptoBulk d + uptoBulkAll r
def uptoBulkEntries {H : Type} : List (Lit × DataW H) → Nat
  | [] => 0
  | x :: r => uptoBulkEntry x + uptoBulkEntries r
def uptoBulkEntry {H : Type} : Lit × DataW H → Nat
  | (.string bytes, d) => bytes.length + uptoBulk d + 1
  | (_, d) => uptoBulk d + 1
 end
def uptoSmall : (H : Type) → List (DataW H) → Bool := fun _ ds => decide (uptoBulkAll ds ≤ 1048576)
def OpenSpec.upto (s : _root_.Go.ChangeSpec) : _root_.Go.OpenSpec := { _root_.Go.OpenSpec.ofChange s with cond := some uptoSmall }

/-- 'sclaw8.StoreTells', WHERE WHAT IT READS IS OF BULK AT MOST 1048576: true; the input reads as it did. -/
def storeTellsUptoRow : OpenClaim := { program := "ytmcgbdbhpnplmaagreat", sum := "8c2134d04c428749ce0f9631fa87f90819ad83b75e1367a2b57b9bddcfd48ade", func := "scrubstore/sclaw8.StoreTells", spec := "storeTells", unfollowed := true, recurses := true, apart := false, narrowed := true }
def StoreTellsUptoSaid : Prop := storeTellsUptoRow.holds Tryz.pinned (OpenSpec.upto storeTellsSpec)

/-- 'sclaw8.StoreModel', WHERE WHAT IT READS IS OF BULK AT MOST 1048576: true; the input reads as it did. -/
def storeModelUptoRow : OpenClaim := { program := "ytmcgbdbhpnplmaagreat", sum := "8c2134d04c428749ce0f9631fa87f90819ad83b75e1367a2b57b9bddcfd48ade", func := "scrubstore/sclaw8.StoreModel", spec := "storeModel", unfollowed := true, recurses := true, apart := false, narrowed := true }
def StoreModelUptoSaid : Prop := storeModelUptoRow.holds Tryz.pinned (OpenSpec.upto storeModelSpec)

/-- 'sclaw8.StorePages', WHERE WHAT IT READS IS OF BULK AT MOST 1048576: true; the input reads as it did. -/
def storePagesUptoRow : OpenClaim := { program := "ytmcgbdbhpnplmaagreat", sum := "8c2134d04c428749ce0f9631fa87f90819ad83b75e1367a2b57b9bddcfd48ade", func := "scrubstore/sclaw8.StorePages", spec := "storePages", unfollowed := true, recurses := true, apart := false, narrowed := true }
def StorePagesUptoSaid : Prop := storePagesUptoRow.holds Tryz.pinned (OpenSpec.upto storePagesSpec)

/-- 'sclaw8.StoreHalf', WHERE WHAT IT READS IS OF BULK AT MOST 1048576: true; the input reads as it did. -/
def storeHalfUptoRow : OpenClaim := { program := "ytmcgbdbhpnplmaagreat", sum := "8c2134d04c428749ce0f9631fa87f90819ad83b75e1367a2b57b9bddcfd48ade", func := "scrubstore/sclaw8.StoreHalf", spec := "storeHalf", unfollowed := true, recurses := true, apart := false, narrowed := true }
def StoreHalfUptoSaid : Prop := storeHalfUptoRow.holds Tryz.pinned (OpenSpec.upto storeHalfSpec)

/-- 'sclaw11.PlayTells', WHERE WHAT IT READS IS OF BULK AT MOST 1048576: true; the input reads as it did. -/
def playTellsUptoRow : OpenClaim := { program := "ytmcgbdbhpnplmaagreat", sum := "8c2134d04c428749ce0f9631fa87f90819ad83b75e1367a2b57b9bddcfd48ade", func := "scrubstore/sclaw11.PlayTells", spec := "playTells", unfollowed := true, recurses := true, apart := false, narrowed := true }
def PlayTellsUptoSaid : Prop := playTellsUptoRow.holds Tryz.pinned (OpenSpec.upto playTellsSpec)

/-- 'sclaw11.PlaySafe', WHERE WHAT IT READS IS OF BULK AT MOST 1048576: true; the input reads as it did. -/
def playSafeUptoRow : OpenClaim := { program := "ytmcgbdbhpnplmaagreat", sum := "8c2134d04c428749ce0f9631fa87f90819ad83b75e1367a2b57b9bddcfd48ade", func := "scrubstore/sclaw11.PlaySafe", spec := "playSafe", unfollowed := true, recurses := true, apart := false, narrowed := true }
def PlaySafeUptoSaid : Prop := playSafeUptoRow.holds Tryz.pinned (OpenSpec.upto playSafeSpec)

/-- 'sclaw11.PlayFits', WHERE WHAT IT READS IS OF BULK AT MOST 1048576: true; the input reads as it did. -/
def playFitsUptoRow : OpenClaim := { program := "ytmcgbdbhpnplmaagreat", sum := "8c2134d04c428749ce0f9631fa87f90819ad83b75e1367a2b57b9bddcfd48ade", func := "scrubstore/sclaw11.PlayFits", spec := "playFits", unfollowed := true, recurses := true, apart := false, narrowed := true }
def PlayFitsUptoSaid : Prop := playFitsUptoRow.holds Tryz.pinned (OpenSpec.upto playFitsSpec)

/-- 'sclaw12.MayTells', WHERE WHAT IT READS IS OF BULK AT MOST 1048576: true; the input reads as it did. -/
def mayTellsUptoRow : OpenClaim := { program := "ytmcgbdbhpnplmaagreat", sum := "8c2134d04c428749ce0f9631fa87f90819ad83b75e1367a2b57b9bddcfd48ade", func := "scrubstore/sclaw12.MayTells", spec := "mayTells", unfollowed := true, recurses := true, apart := false, narrowed := true }
def MayTellsUptoSaid : Prop := mayTellsUptoRow.holds Tryz.pinned (OpenSpec.upto mayTellsSpec)

/-- 'sclaw12.MayFew', WHERE WHAT IT READS IS OF BULK AT MOST 1048576: true; the input reads as it did. -/
def mayFewUptoRow : OpenClaim := { program := "ytmcgbdbhpnplmaagreat", sum := "8c2134d04c428749ce0f9631fa87f90819ad83b75e1367a2b57b9bddcfd48ade", func := "scrubstore/sclaw12.MayFew", spec := "mayFew", unfollowed := true, recurses := true, apart := false, narrowed := true }
def MayFewUptoSaid : Prop := mayFewUptoRow.holds Tryz.pinned (OpenSpec.upto mayFewSpec)

/-- 'sclaw12.MayWalk', WHERE WHAT IT READS IS OF BULK AT MOST 1048576: true; the input reads as it did. -/
def mayWalkUptoRow : OpenClaim := { program := "ytmcgbdbhpnplmaagreat", sum := "8c2134d04c428749ce0f9631fa87f90819ad83b75e1367a2b57b9bddcfd48ade", func := "scrubstore/sclaw12.MayWalk", spec := "mayWalk", unfollowed := true, recurses := true, apart := false, narrowed := true }
def MayWalkUptoSaid : Prop := mayWalkUptoRow.holds Tryz.pinned (OpenSpec.upto mayWalkSpec)

end Rows
end Go.Proofs.YtmcgbdbhpnplmaaGreat
