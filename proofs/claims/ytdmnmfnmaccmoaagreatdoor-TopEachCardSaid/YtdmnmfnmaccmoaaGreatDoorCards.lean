/-
  DERIVED. GIVEN WITH THE SEED: THE CARDS: each row of YtdmnmfnmaccmoaaGreatDoorRows.lean that lists a variable, with what it lists TIED to the program's text (the seventh form; the later family's looks); each row that meets fmt, with fmt's text TOLD by the authors' own Lean function (tested against real Go, not proved from fmt's source: count such statements apart). THE CARD IS WHAT COUNTS. Prove the row's statement (the work); the ties are given (YtdmnmfnmaccmoaaGreatDoorTie.lean); close each card by the builder's one call (the guide's Derived/Test/ToyasCard.lean, 'card_holds'). Laid BY PROGRAM, IN A SANDBOX (cutbox-door.mjs). By AI agents, Wed Nov 11 2026. No macro, syntax, notation, axiom, sorry.
-/
import Derived.Test.YtdmnmfnmaccmoaaGreatDoorRows
import GoSem.ClaimSeven
namespace Go.Proofs.YtdmnmfnmaccmoaaGreatDoor
namespace Rows

/-- THE TIED CARD OF 'sctop.TopFall'. -/
def topFallCard : Claim7 := { stood := { row := topFallRow, standIns := [], harness := (true, "271488c2d5b0cac8032e62e2172e77405f968710c5e502b5be4b703d1220a791"), looks := true }, kinds := [], alts := [], laidByText := true, laidKinds := [.data, .data, .data, .data, .sentinel, .sentinel, .pinned], laidTests := true, laidLooks := .later }
def TopFallCardSaid : Prop := Claim7.holds Tryz.pinned (.plain (OpenSpec.ofChange topFallSpec)) topFallCard

/-- THE TIED CARD OF 'sctop.TopBack'. -/
def topBackCard : Claim7 := { stood := { row := topBackRow, standIns := [], harness := (true, "271488c2d5b0cac8032e62e2172e77405f968710c5e502b5be4b703d1220a791"), looks := true }, kinds := [], alts := [], laidByText := true, laidKinds := [.data, .data, .data, .data, .sentinel, .sentinel, .pinned], laidTests := true, laidLooks := .later }
def TopBackCardSaid : Prop := Claim7.holds Tryz.pinned (.plain (OpenSpec.ofChange topBackSpec)) topBackCard

/-- THE TIED CARD OF 'sctop.TopRot'. -/
def topRotCard : Claim7 := { stood := { row := topRotRow, standIns := [], harness := (true, "271488c2d5b0cac8032e62e2172e77405f968710c5e502b5be4b703d1220a791"), looks := true }, kinds := [], alts := [], laidByText := true, laidKinds := [.data, .data, .data, .data, .sentinel, .sentinel, .pinned], laidTests := true, laidLooks := .later }
def TopRotCardSaid : Prop := Claim7.holds Tryz.pinned (.plain (OpenSpec.ofChange topRotSpec)) topRotCard

/-- THE TIED CARD OF 'sctop.TopEach'. -/
def topEachCard : Claim7 := { stood := { row := topEachRow, standIns := [], harness := (true, "271488c2d5b0cac8032e62e2172e77405f968710c5e502b5be4b703d1220a791"), looks := true }, kinds := [], alts := [], laidByText := true, laidKinds := [.data, .data, .data, .data, .sentinel, .sentinel, .pinned], laidTests := true, laidLooks := .later }
def TopEachCardSaid : Prop := Claim7.holds Tryz.pinned (.plain (OpenSpec.ofChange topEachSpec)) topEachCard

/-- THE SECOND FORM's CARD OF 'sctop.TopFall'. -/
def topFallUptoCard : Claim7 := { stood := { row := topFallUptoRow, standIns := [], harness := (true, "271488c2d5b0cac8032e62e2172e77405f968710c5e502b5be4b703d1220a791"), looks := true }, kinds := [], alts := [], laidByText := true, laidKinds := [.data, .data, .data, .data, .sentinel, .sentinel, .pinned], laidTests := true, laidLooks := .later }
def TopFallUptoCardSaid : Prop := Claim7.holds Tryz.pinned (.plain (OpenSpec.upto topFallSpec)) topFallUptoCard

/-- THE SECOND FORM's CARD OF 'sctop.TopBack'. -/
def topBackUptoCard : Claim7 := { stood := { row := topBackUptoRow, standIns := [], harness := (true, "271488c2d5b0cac8032e62e2172e77405f968710c5e502b5be4b703d1220a791"), looks := true }, kinds := [], alts := [], laidByText := true, laidKinds := [.data, .data, .data, .data, .sentinel, .sentinel, .pinned], laidTests := true, laidLooks := .later }
def TopBackUptoCardSaid : Prop := Claim7.holds Tryz.pinned (.plain (OpenSpec.upto topBackSpec)) topBackUptoCard

/-- THE SECOND FORM's CARD OF 'sctop.TopRot'. -/
def topRotUptoCard : Claim7 := { stood := { row := topRotUptoRow, standIns := [], harness := (true, "271488c2d5b0cac8032e62e2172e77405f968710c5e502b5be4b703d1220a791"), looks := true }, kinds := [], alts := [], laidByText := true, laidKinds := [.data, .data, .data, .data, .sentinel, .sentinel, .pinned], laidTests := true, laidLooks := .later }
def TopRotUptoCardSaid : Prop := Claim7.holds Tryz.pinned (.plain (OpenSpec.upto topRotSpec)) topRotUptoCard

/-- THE SECOND FORM's CARD OF 'sctop.TopEach'. -/
def topEachUptoCard : Claim7 := { stood := { row := topEachUptoRow, standIns := [], harness := (true, "271488c2d5b0cac8032e62e2172e77405f968710c5e502b5be4b703d1220a791"), looks := true }, kinds := [], alts := [], laidByText := true, laidKinds := [.data, .data, .data, .data, .sentinel, .sentinel, .pinned], laidTests := true, laidLooks := .later }
def TopEachUptoCardSaid : Prop := Claim7.holds Tryz.pinned (.plain (OpenSpec.upto topEachSpec)) topEachUptoCard
end Rows
end Go.Proofs.YtdmnmfnmaccmoaaGreatDoor
