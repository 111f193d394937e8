/- 'CopyInts', 'LendInts', 'KeptInts' of the statements. Conditions: the list lies in memory; it is no longer than the reach. -/
import Derived.Test.YtpfgklkdldkajaaDoorLawKit
namespace Go.Proofs.YtpfgklkdldkajaaDoor
open Go.RowKit

theorem ReadsI.prefix {w : World} {A : Option Addr} {xs ys : List Int} (h : ReadsI w A (xs ++ ys)) : ReadsI w A xs := by
  refine ⟨by have := h.1; rw [List.length_append] at this; omega, fun h0 => ?_⟩
  obtain ⟨ad, e, hc⟩ := h.2 (by rw [List.length_append]; omega)
  exact ⟨ad, e, fun j hj => by rw [hc j (by rw [List.length_append]; omega), List.getElem_append_left hj]⟩
/-- A lent list: marked room behind it. -/
def LendE (xs : List Int) (w : World) (e : Ending) (w' : World) : Prop := ∃ g off cap, e = .returned (.slice (some ⟨g, off, none⟩) xs.length cap) ∧ xs.length + 2 ≤ cap ∧ cap ≤ maxLen ∧ ReadsI w' (some ⟨g, off, none⟩) (xs ++ [-7777, -8888]) ∧ Below w.heap.size w w'
end Go.Proofs.YtpfgklkdldkajaaDoor
