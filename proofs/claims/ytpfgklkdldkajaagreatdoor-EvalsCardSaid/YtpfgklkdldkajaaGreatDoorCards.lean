/-
  DERIVED. GIVEN WITH THE SEED: THE CARDS: each row of YtpfgklkdldkajaaGreatDoorRows.lean that lists a variable, with what it lists TIED to the program's text (the seventh form; the later family's looks); each row that meets fmt, with fmt's text TOLD by the authors' own Lean function (tested against real Go, not proved from fmt's source: count such statements apart). THE CARD IS WHAT COUNTS. Prove the row's statement (the work); the ties are given (YtpfgklkdldkajaaGreatDoorTie.lean); close each card by the builder's one call (the guide's Derived/Test/ToyasCard.lean, 'card_holds'). Laid BY PROGRAM, IN A SANDBOX (cutbox-door.mjs). By AI agents, Wed Nov 11 2026. No macro, syntax, notation, axiom, sorry.
-/
import Derived.Test.YtpfgklkdldkajaaGreatDoorRows
import GoSem.ClaimSeven
namespace Go.Proofs.YtpfgklkdldkajaaGreatDoor
namespace Rows

/-- THE TIED CARD OF 'swagelaw9.Profs'. -/
def profsCard : Claim7 := { stood := { row := profsRow, standIns := [], harness := (true, "ac95df048b5c7c4dcc79e6a588f099ccd7b73da411afb6518c11e26a8b675059"), looks := true }, kinds := [], alts := [], laidByText := true, laidKinds := [.handle], laidTests := true, laidLooks := .later }
def ProfsCardSaid : Prop := Claim7.holds Tryz.pinned (.plain (OpenSpec.ofChange profsSpec)) profsCard

/-- THE TIED CARD OF 'swagelaw7.Steps'. -/
def stepsCard : Claim7 := { stood := { row := stepsRow, standIns := [], harness := (true, "ac95df048b5c7c4dcc79e6a588f099ccd7b73da411afb6518c11e26a8b675059"), looks := true }, kinds := [], alts := [], laidByText := true, laidKinds := [.handle], laidTests := true, laidLooks := .later }
def StepsCardSaid : Prop := Claim7.holds Tryz.pinned (.plain (OpenSpec.ofChange stepsSpec)) stepsCard

/-- THE TIED CARD OF 'swagelaw7.StepKeeps'. -/
def stepKeepsCard : Claim7 := { stood := { row := stepKeepsRow, standIns := [], harness := (true, "ac95df048b5c7c4dcc79e6a588f099ccd7b73da411afb6518c11e26a8b675059"), looks := true }, kinds := [], alts := [], laidByText := true, laidKinds := [.handle], laidTests := true, laidLooks := .later }
def StepKeepsCardSaid : Prop := Claim7.holds Tryz.pinned (.plain (OpenSpec.ofChange stepKeepsSpec)) stepKeepsCard

/-- THE TIED CARD OF 'swagelaw7.StepKinds'. -/
def stepKindsCard : Claim7 := { stood := { row := stepKindsRow, standIns := [], harness := (true, "ac95df048b5c7c4dcc79e6a588f099ccd7b73da411afb6518c11e26a8b675059"), looks := true }, kinds := [], alts := [], laidByText := true, laidKinds := [.handle], laidTests := true, laidLooks := .later }
def StepKindsCardSaid : Prop := Claim7.holds Tryz.pinned (.plain (OpenSpec.ofChange stepKindsSpec)) stepKindsCard

/-- THE TIED CARD OF 'swagelaw7.StepEnds'. -/
def stepEndsCard : Claim7 := { stood := { row := stepEndsRow, standIns := [], harness := (true, "ac95df048b5c7c4dcc79e6a588f099ccd7b73da411afb6518c11e26a8b675059"), looks := true }, kinds := [], alts := [], laidByText := true, laidKinds := [.handle], laidTests := true, laidLooks := .later }
def StepEndsCardSaid : Prop := Claim7.holds Tryz.pinned (.plain (OpenSpec.ofChange stepEndsSpec)) stepEndsCard

/-- THE TIED CARD OF 'swagelaw8.Evals'. -/
def evalsCard : Claim7 := { stood := { row := evalsRow, standIns := [], harness := (true, "ac95df048b5c7c4dcc79e6a588f099ccd7b73da411afb6518c11e26a8b675059"), looks := true }, kinds := [], alts := [], laidByText := true, laidKinds := [.handle], laidTests := true, laidLooks := .later }
def EvalsCardSaid : Prop := Claim7.holds Tryz.pinned (.plain (OpenSpec.ofChange evalsSpec)) evalsCard

/-- THE TIED CARD OF 'swagelaw8.EvalUnreached'. -/
def evalUnreachedCard : Claim7 := { stood := { row := evalUnreachedRow, standIns := [], harness := (true, "ac95df048b5c7c4dcc79e6a588f099ccd7b73da411afb6518c11e26a8b675059"), looks := true }, kinds := [], alts := [], laidByText := true, laidKinds := [.handle], laidTests := true, laidLooks := .later }
def EvalUnreachedCardSaid : Prop := Claim7.holds Tryz.pinned (.plain (OpenSpec.ofChange evalUnreachedSpec)) evalUnreachedCard

/-- THE TIED CARD OF 'swagelaw8.EvalArgs'. -/
def evalArgsCard : Claim7 := { stood := { row := evalArgsRow, standIns := [], harness := (true, "ac95df048b5c7c4dcc79e6a588f099ccd7b73da411afb6518c11e26a8b675059"), looks := true }, kinds := [], alts := [], laidByText := true, laidKinds := [.handle], laidTests := true, laidLooks := .later }
def EvalArgsCardSaid : Prop := Claim7.holds Tryz.pinned (.plain (OpenSpec.ofChange evalArgsSpec)) evalArgsCard

/-- THE SECOND FORM's CARD OF 'swagelaw9.Profs'. -/
def profsUptoCard : Claim7 := { stood := { row := profsUptoRow, standIns := [], harness := (true, "ac95df048b5c7c4dcc79e6a588f099ccd7b73da411afb6518c11e26a8b675059"), looks := true }, kinds := [], alts := [], laidByText := true, laidKinds := [.handle], laidTests := true, laidLooks := .later }
def ProfsUptoCardSaid : Prop := Claim7.holds Tryz.pinned (.plain (OpenSpec.upto profsSpec)) profsUptoCard

/-- THE SECOND FORM's CARD OF 'swagelaw7.Steps'. -/
def stepsUptoCard : Claim7 := { stood := { row := stepsUptoRow, standIns := [], harness := (true, "ac95df048b5c7c4dcc79e6a588f099ccd7b73da411afb6518c11e26a8b675059"), looks := true }, kinds := [], alts := [], laidByText := true, laidKinds := [.handle], laidTests := true, laidLooks := .later }
def StepsUptoCardSaid : Prop := Claim7.holds Tryz.pinned (.plain (OpenSpec.upto stepsSpec)) stepsUptoCard

/-- THE SECOND FORM's CARD OF 'swagelaw7.StepKeeps'. -/
def stepKeepsUptoCard : Claim7 := { stood := { row := stepKeepsUptoRow, standIns := [], harness := (true, "ac95df048b5c7c4dcc79e6a588f099ccd7b73da411afb6518c11e26a8b675059"), looks := true }, kinds := [], alts := [], laidByText := true, laidKinds := [.handle], laidTests := true, laidLooks := .later }
def StepKeepsUptoCardSaid : Prop := Claim7.holds Tryz.pinned (.plain (OpenSpec.upto stepKeepsSpec)) stepKeepsUptoCard

/-- THE SECOND FORM's CARD OF 'swagelaw7.StepKinds'. -/
def stepKindsUptoCard : Claim7 := { stood := { row := stepKindsUptoRow, standIns := [], harness := (true, "ac95df048b5c7c4dcc79e6a588f099ccd7b73da411afb6518c11e26a8b675059"), looks := true }, kinds := [], alts := [], laidByText := true, laidKinds := [.handle], laidTests := true, laidLooks := .later }
def StepKindsUptoCardSaid : Prop := Claim7.holds Tryz.pinned (.plain (OpenSpec.upto stepKindsSpec)) stepKindsUptoCard

/-- THE SECOND FORM's CARD OF 'swagelaw7.StepEnds'. -/
def stepEndsUptoCard : Claim7 := { stood := { row := stepEndsUptoRow, standIns := [], harness := (true, "ac95df048b5c7c4dcc79e6a588f099ccd7b73da411afb6518c11e26a8b675059"), looks := true }, kinds := [], alts := [], laidByText := true, laidKinds := [.handle], laidTests := true, laidLooks := .later }
def StepEndsUptoCardSaid : Prop := Claim7.holds Tryz.pinned (.plain (OpenSpec.upto stepEndsSpec)) stepEndsUptoCard

/-- THE SECOND FORM's CARD OF 'swagelaw8.Evals'. -/
def evalsUptoCard : Claim7 := { stood := { row := evalsUptoRow, standIns := [], harness := (true, "ac95df048b5c7c4dcc79e6a588f099ccd7b73da411afb6518c11e26a8b675059"), looks := true }, kinds := [], alts := [], laidByText := true, laidKinds := [.handle], laidTests := true, laidLooks := .later }
def EvalsUptoCardSaid : Prop := Claim7.holds Tryz.pinned (.plain (OpenSpec.upto evalsSpec)) evalsUptoCard

/-- THE SECOND FORM's CARD OF 'swagelaw8.EvalUnreached'. -/
def evalUnreachedUptoCard : Claim7 := { stood := { row := evalUnreachedUptoRow, standIns := [], harness := (true, "ac95df048b5c7c4dcc79e6a588f099ccd7b73da411afb6518c11e26a8b675059"), looks := true }, kinds := [], alts := [], laidByText := true, laidKinds := [.handle], laidTests := true, laidLooks := .later }
def EvalUnreachedUptoCardSaid : Prop := Claim7.holds Tryz.pinned (.plain (OpenSpec.upto evalUnreachedSpec)) evalUnreachedUptoCard

/-- THE SECOND FORM's CARD OF 'swagelaw8.EvalArgs'. -/
def evalArgsUptoCard : Claim7 := { stood := { row := evalArgsUptoRow, standIns := [], harness := (true, "ac95df048b5c7c4dcc79e6a588f099ccd7b73da411afb6518c11e26a8b675059"), looks := true }, kinds := [], alts := [], laidByText := true, laidKinds := [.handle], laidTests := true, laidLooks := .later }
def EvalArgsUptoCardSaid : Prop := Claim7.holds Tryz.pinned (.plain (OpenSpec.upto evalArgsSpec)) evalArgsUptoCard
end Rows
end Go.Proofs.YtpfgklkdldkajaaGreatDoor
