/- The statement MayFew: the walk of the law. -/
import Derived.Test.YtmcgbdbhpnplmaaGreatAlive12
namespace Go.Proofs.YtmcgbdbhpnplmaaGreat
open Go Go.RowKit

theorem right_parts {l : List Rec} (h : mRight l = true) : (∀ r ∈ l, rOne r = true) ∧ l.length ≤ 4096 := by
 unfold mRight at h
 rw [Bool.and_eq_true, List.all_eq_true] at h
 have := of_decide_eq_true h.2
 exact ⟨h.1, by omega⟩
end Go.Proofs.YtmcgbdbhpnplmaaGreat

