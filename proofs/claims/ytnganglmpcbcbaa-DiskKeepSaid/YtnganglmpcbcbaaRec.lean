/- Plain: records and blocks (chapter 2). -/
import Derived.Test.YtnganglmpcbcbaaPlain
namespace Go.Proofs.Ytnganglmpcbcbaa

def rSame (a b : Rec) : Bool := decide (a.kind = b.kind) && decide (a.key = b.key) && decide (a.ver = b.ver) && (a.data == b.data)
/-- What is wrong with a record: 0, or the error's number. -/
def rWrong (r : Rec) : Int :=
  if r.kind < 1 ∨ 3 < r.kind then 1
  else if r.kind = 1 ∧ (r.key ≠ 0 ∨ r.ver ≠ 0) then 3
  else if r.kind ≠ 1 ∧ (r.key < 1 ∨ 255 < r.key ∨ r.ver < 1 ∨ 60000 < r.ver) then 3
  else if 8 < r.data.length ∨ r.kind ≠ 2 ∧ 0 < r.data.length then 4
  else 0
def rZero : Rec := ⟨0, 0, 0, []⟩
def rFree : Rec := ⟨1, 0, 0, []⟩
/-- The fourteen bytes ahead of the sum. -/
def rBody (r : Rec) (at_ : Int) : List UInt8 :=
  [b8 r.kind, b8 at_, b8 r.key] ++ sTwo r.ver ++ [b8 r.data.length] ++ r.data ++ List.replicate (8 - r.data.length) 0
def rBytes (r : Rec) (at_ : Int) : List UInt8 := sSeal (rBody r at_)
/-- A block's record, as its bytes tell it. -/
def rTold (b : List UInt8) : Rec :=
  ⟨((b.getD 0 0).toNat : Int), ((b.getD 2 0).toNat : Int), sNum (b.getD 3 0) (b.getD 4 0), (b.drop 6).take (b.getD 5 0).toNat⟩
def rRead (b : List UInt8) (at_ : Int) : Rec × Int :=
  if b.length ≠ 16 then (rZero, 2)
  else if sSealed b = false then (rZero, 7)
  else if ((b.getD 1 0).toNat : Int) ≠ at_ then (rZero, 8)
  else if 8 < (b.getD 5 0).toNat then (rZero, 4)
  else if ((b.drop (6 + (b.getD 5 0).toNat)).take (8 - (b.getD 5 0).toNat)).any (fun c => c != 0) then (rZero, 2)
  else if rWrong (rTold b) ≠ 0 then (rZero, rWrong (rTold b))
  else (rTold b, 0)

theorem rSame_iff (a b : Rec) : rSame a b = true ↔ a = b := by
  cases a; cases b
  simp [rSame, and_assoc]

end Go.Proofs.Ytnganglmpcbcbaa
