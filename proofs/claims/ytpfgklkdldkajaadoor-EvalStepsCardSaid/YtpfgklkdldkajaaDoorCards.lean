/-
  DERIVED. GIVEN WITH THE SEED: THE CARDS: each row of YtpfgklkdldkajaaDoorRows.lean that lists a variable, with what it lists TIED to the program's text (the seventh form; the later family's looks); each row that meets fmt, with fmt's text TOLD by the authors' own Lean function (tested against real Go, not proved from fmt's source: count such statements apart). THE CARD IS WHAT COUNTS. Prove the row's statement (the work); the ties are given (YtpfgklkdldkajaaDoorTie.lean); close each card by the builder's one call (the guide's Derived/Test/ToyasCard.lean, 'card_holds'). Laid BY PROGRAM, IN A SANDBOX (cutbox-door.mjs). By AI agents, Wed Nov 11 2026. No macro, syntax, notation, axiom, sorry.
-/
import Derived.Test.YtpfgklkdldkajaaDoorRows
import GoSem.ClaimSeven
namespace Go.Proofs.YtpfgklkdldkajaaDoor
namespace Rows

/-- THE TIED CARD OF 'swagelaw5.VerifyMore'. -/
def verifyMoreCard : Claim7 := { stood := { row := verifyMoreRow, standIns := [], harness := (true, "0d4379efc901f10e3c1ce5f9f77c86b289f7d804d7199f854134dfd0258a9a8e"), looks := true }, kinds := [], alts := [], laidByText := true, laidKinds := [.handle], laidTests := true, laidLooks := .later }
def VerifyMoreCardSaid : Prop := Claim7.holds Tryd.pinned (.plain (OpenSpec.ofChange verifyMoreSpec)) verifyMoreCard

/-- THE TIED CARD OF 'swagelaw9.ProfCounts'. -/
def profCountsCard : Claim7 := { stood := { row := profCountsRow, standIns := [], harness := (true, "0d4379efc901f10e3c1ce5f9f77c86b289f7d804d7199f854134dfd0258a9a8e"), looks := true }, kinds := [], alts := [], laidByText := true, laidKinds := [.handle], laidTests := true, laidLooks := .later }
def ProfCountsCardSaid : Prop := Claim7.holds Tryd.pinned (.plain (OpenSpec.ofChange profCountsSpec)) profCountsCard

/-- THE TIED CARD OF 'swagelaw9.ProfForms'. -/
def profFormsCard : Claim7 := { stood := { row := profFormsRow, standIns := [], harness := (true, "0d4379efc901f10e3c1ce5f9f77c86b289f7d804d7199f854134dfd0258a9a8e"), looks := true }, kinds := [], alts := [], laidByText := true, laidKinds := [.handle], laidTests := true, laidLooks := .later }
def ProfFormsCardSaid : Prop := Claim7.holds Tryd.pinned (.plain (OpenSpec.ofChange profFormsSpec)) profFormsCard

/-- THE TIED CARD OF 'swagelaw9.ProfFull'. -/
def profFullCard : Claim7 := { stood := { row := profFullRow, standIns := [], harness := (true, "0d4379efc901f10e3c1ce5f9f77c86b289f7d804d7199f854134dfd0258a9a8e"), looks := true }, kinds := [], alts := [], laidByText := true, laidKinds := [.handle], laidTests := true, laidLooks := .later }
def ProfFullCardSaid : Prop := Claim7.holds Tryd.pinned (.plain (OpenSpec.ofChange profFullSpec)) profFullCard

/-- THE TIED CARD OF 'swagelaw8.EvalFuel'. -/
def evalFuelCard : Claim7 := { stood := { row := evalFuelRow, standIns := [], harness := (true, "0d4379efc901f10e3c1ce5f9f77c86b289f7d804d7199f854134dfd0258a9a8e"), looks := true }, kinds := [], alts := [], laidByText := true, laidKinds := [.handle], laidTests := true, laidLooks := .later }
def EvalFuelCardSaid : Prop := Claim7.holds Tryd.pinned (.plain (OpenSpec.ofChange evalFuelSpec)) evalFuelCard

/-- THE TIED CARD OF 'swagelaw8.EvalSums'. -/
def evalSumsCard : Claim7 := { stood := { row := evalSumsRow, standIns := [], harness := (true, "0d4379efc901f10e3c1ce5f9f77c86b289f7d804d7199f854134dfd0258a9a8e"), looks := true }, kinds := [], alts := [], laidByText := true, laidKinds := [.handle], laidTests := true, laidLooks := .later }
def EvalSumsCardSaid : Prop := Claim7.holds Tryd.pinned (.plain (OpenSpec.ofChange evalSumsSpec)) evalSumsCard

/-- THE TIED CARD OF 'swagelaw8.EvalCalls'. -/
def evalCallsCard : Claim7 := { stood := { row := evalCallsRow, standIns := [], harness := (true, "0d4379efc901f10e3c1ce5f9f77c86b289f7d804d7199f854134dfd0258a9a8e"), looks := true }, kinds := [], alts := [], laidByText := true, laidKinds := [.handle], laidTests := true, laidLooks := .later }
def EvalCallsCardSaid : Prop := Claim7.holds Tryd.pinned (.plain (OpenSpec.ofChange evalCallsSpec)) evalCallsCard

/-- THE TIED CARD OF 'swagelaw8.EvalRows'. -/
def evalRowsCard : Claim7 := { stood := { row := evalRowsRow, standIns := [], harness := (true, "0d4379efc901f10e3c1ce5f9f77c86b289f7d804d7199f854134dfd0258a9a8e"), looks := true }, kinds := [], alts := [], laidByText := true, laidKinds := [.handle], laidTests := true, laidLooks := .later }
def EvalRowsCardSaid : Prop := Claim7.holds Tryd.pinned (.plain (OpenSpec.ofChange evalRowsSpec)) evalRowsCard

/-- THE TIED CARD OF 'swagelaw8.EvalSteps'. -/
def evalStepsCard : Claim7 := { stood := { row := evalStepsRow, standIns := [], harness := (true, "0d4379efc901f10e3c1ce5f9f77c86b289f7d804d7199f854134dfd0258a9a8e"), looks := true }, kinds := [], alts := [], laidByText := true, laidKinds := [.handle], laidTests := true, laidLooks := .later }
def EvalStepsCardSaid : Prop := Claim7.holds Tryd.pinned (.plain (OpenSpec.ofChange evalStepsSpec)) evalStepsCard

/-- THE SECOND FORM's CARD OF 'swagelaw5.VerifyMore'. -/
def verifyMoreUptoCard : Claim7 := { stood := { row := verifyMoreUptoRow, standIns := [], harness := (true, "0d4379efc901f10e3c1ce5f9f77c86b289f7d804d7199f854134dfd0258a9a8e"), looks := true }, kinds := [], alts := [], laidByText := true, laidKinds := [.handle], laidTests := true, laidLooks := .later }
def VerifyMoreUptoCardSaid : Prop := Claim7.holds Tryd.pinned (.plain (OpenSpec.upto verifyMoreSpec)) verifyMoreUptoCard

/-- THE SECOND FORM's CARD OF 'swagelaw9.ProfCounts'. -/
def profCountsUptoCard : Claim7 := { stood := { row := profCountsUptoRow, standIns := [], harness := (true, "0d4379efc901f10e3c1ce5f9f77c86b289f7d804d7199f854134dfd0258a9a8e"), looks := true }, kinds := [], alts := [], laidByText := true, laidKinds := [.handle], laidTests := true, laidLooks := .later }
def ProfCountsUptoCardSaid : Prop := Claim7.holds Tryd.pinned (.plain (OpenSpec.upto profCountsSpec)) profCountsUptoCard

/-- THE SECOND FORM's CARD OF 'swagelaw9.ProfForms'. -/
def profFormsUptoCard : Claim7 := { stood := { row := profFormsUptoRow, standIns := [], harness := (true, "0d4379efc901f10e3c1ce5f9f77c86b289f7d804d7199f854134dfd0258a9a8e"), looks := true }, kinds := [], alts := [], laidByText := true, laidKinds := [.handle], laidTests := true, laidLooks := .later }
def ProfFormsUptoCardSaid : Prop := Claim7.holds Tryd.pinned (.plain (OpenSpec.upto profFormsSpec)) profFormsUptoCard

/-- THE SECOND FORM's CARD OF 'swagelaw9.ProfFull'. -/
def profFullUptoCard : Claim7 := { stood := { row := profFullUptoRow, standIns := [], harness := (true, "0d4379efc901f10e3c1ce5f9f77c86b289f7d804d7199f854134dfd0258a9a8e"), looks := true }, kinds := [], alts := [], laidByText := true, laidKinds := [.handle], laidTests := true, laidLooks := .later }
def ProfFullUptoCardSaid : Prop := Claim7.holds Tryd.pinned (.plain (OpenSpec.upto profFullSpec)) profFullUptoCard

/-- THE SECOND FORM's CARD OF 'swagelaw8.EvalFuel'. -/
def evalFuelUptoCard : Claim7 := { stood := { row := evalFuelUptoRow, standIns := [], harness := (true, "0d4379efc901f10e3c1ce5f9f77c86b289f7d804d7199f854134dfd0258a9a8e"), looks := true }, kinds := [], alts := [], laidByText := true, laidKinds := [.handle], laidTests := true, laidLooks := .later }
def EvalFuelUptoCardSaid : Prop := Claim7.holds Tryd.pinned (.plain (OpenSpec.upto evalFuelSpec)) evalFuelUptoCard

/-- THE SECOND FORM's CARD OF 'swagelaw8.EvalSums'. -/
def evalSumsUptoCard : Claim7 := { stood := { row := evalSumsUptoRow, standIns := [], harness := (true, "0d4379efc901f10e3c1ce5f9f77c86b289f7d804d7199f854134dfd0258a9a8e"), looks := true }, kinds := [], alts := [], laidByText := true, laidKinds := [.handle], laidTests := true, laidLooks := .later }
def EvalSumsUptoCardSaid : Prop := Claim7.holds Tryd.pinned (.plain (OpenSpec.upto evalSumsSpec)) evalSumsUptoCard

/-- THE SECOND FORM's CARD OF 'swagelaw8.EvalCalls'. -/
def evalCallsUptoCard : Claim7 := { stood := { row := evalCallsUptoRow, standIns := [], harness := (true, "0d4379efc901f10e3c1ce5f9f77c86b289f7d804d7199f854134dfd0258a9a8e"), looks := true }, kinds := [], alts := [], laidByText := true, laidKinds := [.handle], laidTests := true, laidLooks := .later }
def EvalCallsUptoCardSaid : Prop := Claim7.holds Tryd.pinned (.plain (OpenSpec.upto evalCallsSpec)) evalCallsUptoCard

/-- THE SECOND FORM's CARD OF 'swagelaw8.EvalRows'. -/
def evalRowsUptoCard : Claim7 := { stood := { row := evalRowsUptoRow, standIns := [], harness := (true, "0d4379efc901f10e3c1ce5f9f77c86b289f7d804d7199f854134dfd0258a9a8e"), looks := true }, kinds := [], alts := [], laidByText := true, laidKinds := [.handle], laidTests := true, laidLooks := .later }
def EvalRowsUptoCardSaid : Prop := Claim7.holds Tryd.pinned (.plain (OpenSpec.upto evalRowsSpec)) evalRowsUptoCard

/-- THE SECOND FORM's CARD OF 'swagelaw8.EvalSteps'. -/
def evalStepsUptoCard : Claim7 := { stood := { row := evalStepsUptoRow, standIns := [], harness := (true, "0d4379efc901f10e3c1ce5f9f77c86b289f7d804d7199f854134dfd0258a9a8e"), looks := true }, kinds := [], alts := [], laidByText := true, laidKinds := [.handle], laidTests := true, laidLooks := .later }
def EvalStepsUptoCardSaid : Prop := Claim7.holds Tryd.pinned (.plain (OpenSpec.upto evalStepsSpec)) evalStepsUptoCard
end Rows
end Go.Proofs.YtpfgklkdldkajaaDoor
