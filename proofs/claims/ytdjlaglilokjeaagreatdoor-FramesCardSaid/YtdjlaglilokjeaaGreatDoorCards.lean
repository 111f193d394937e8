/-
  DERIVED. GIVEN WITH THE SEED: THE CARDS: each row of YtdjlaglilokjeaaGreatDoorRows.lean that lists a variable, with what it lists TIED to the program's text (the seventh form; the later family's looks); each row that meets fmt, with fmt's text TOLD by the authors' own Lean function (tested against real Go, not proved from fmt's source: count such statements apart). THE CARD IS WHAT COUNTS. Prove the row's statement (the work); the ties are given (YtdjlaglilokjeaaGreatDoorTie.lean); close each card by the builder's one call (the guide's Derived/Test/ToyasCard.lean, 'card_holds'). Laid BY PROGRAM, IN A SANDBOX (cutbox-door.mjs). By AI agents, Wed Nov 11 2026. No macro, syntax, notation, axiom, sorry.
-/
import Derived.Test.YtdjlaglilokjeaaGreatDoorRows
import GoSem.ClaimSeven
namespace Go.Proofs.YtdjlaglilokjeaaGreatDoor
namespace Rows

/-- THE TIED CARD OF 'swagelaw6.Frames'. -/
def framesCard : Claim7 := { stood := { row := framesRow, standIns := [], harness := (true, "9d18e40110d85c911727bc8687d9ee5b7cc9e5a4eaf015688619882526b23aae"), looks := true }, kinds := [], alts := [], laidByText := true, laidKinds := [.handle], laidTests := true, laidLooks := .later }
def FramesCardSaid : Prop := Claim7.holds Tryz.pinned (.plain (OpenSpec.ofChange framesSpec)) framesCard

/-- THE SECOND FORM's CARD OF 'swagelaw6.Frames'. -/
def framesUptoCard : Claim7 := { stood := { row := framesUptoRow, standIns := [], harness := (true, "9d18e40110d85c911727bc8687d9ee5b7cc9e5a4eaf015688619882526b23aae"), looks := true }, kinds := [], alts := [], laidByText := true, laidKinds := [.handle], laidTests := true, laidLooks := .later }
def FramesUptoCardSaid : Prop := Claim7.holds Tryz.pinned (.plain (OpenSpec.upto framesSpec)) framesUptoCard
end Rows
end Go.Proofs.YtdjlaglilokjeaaGreatDoor
