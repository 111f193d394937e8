/-
  DERIVED. GIVEN WITH THE SEED: THE CARDS: each row of YtdjlaglilokjeaaDoorRows.lean that lists a variable, with what it lists TIED to the program's text (the seventh form; the later family's looks); each row that meets fmt, with fmt's text TOLD by the authors' own Lean function (tested against real Go, not proved from fmt's source: count such statements apart). THE CARD IS WHAT COUNTS. Prove the row's statement (the work); the ties are given (YtdjlaglilokjeaaDoorTie.lean); close each card by the builder's one call (the guide's Derived/Test/ToyasCard.lean, 'card_holds'). Laid BY PROGRAM, IN A SANDBOX (cutbox-door.mjs). By AI agents, Wed Nov 11 2026. No macro, syntax, notation, axiom, sorry.
-/
import Derived.Test.YtdjlaglilokjeaaDoorRows
import GoSem.ClaimSeven
namespace Go.Proofs.YtdjlaglilokjeaaDoor
namespace Rows

/-- THE TIED CARD OF 'swagelaw5.Verifies'. -/
def verifiesCard : Claim7 := { stood := { row := verifiesRow, standIns := [], harness := (true, "0fdd693700214e93822ea87edd7ba1c574ec8db27f69e27ac28f863798f347cc"), looks := true }, kinds := [], alts := [], laidByText := true, laidKinds := [.handle], laidTests := true, laidLooks := .later }
def VerifiesCardSaid : Prop := Claim7.holds Tryd.pinned (.plain (OpenSpec.ofChange verifiesSpec)) verifiesCard

/-- THE TIED CARD OF 'swagelaw5.VerifyFlows'. -/
def verifyFlowsCard : Claim7 := { stood := { row := verifyFlowsRow, standIns := [], harness := (true, "0fdd693700214e93822ea87edd7ba1c574ec8db27f69e27ac28f863798f347cc"), looks := true }, kinds := [], alts := [], laidByText := true, laidKinds := [.handle], laidTests := true, laidLooks := .later }
def VerifyFlowsCardSaid : Prop := Claim7.holds Tryd.pinned (.plain (OpenSpec.ofChange verifyFlowsSpec)) verifyFlowsCard

/-- THE TIED CARD OF 'swagelaw5.VerifyForms'. -/
def verifyFormsCard : Claim7 := { stood := { row := verifyFormsRow, standIns := [], harness := (true, "0fdd693700214e93822ea87edd7ba1c574ec8db27f69e27ac28f863798f347cc"), looks := true }, kinds := [], alts := [], laidByText := true, laidKinds := [.handle], laidTests := true, laidLooks := .later }
def VerifyFormsCardSaid : Prop := Claim7.holds Tryd.pinned (.plain (OpenSpec.ofChange verifyFormsSpec)) verifyFormsCard

/-- THE TIED CARD OF 'swagelaw5.VerifyHeights'. -/
def verifyHeightsCard : Claim7 := { stood := { row := verifyHeightsRow, standIns := [], harness := (true, "0fdd693700214e93822ea87edd7ba1c574ec8db27f69e27ac28f863798f347cc"), looks := true }, kinds := [], alts := [], laidByText := true, laidKinds := [.handle], laidTests := true, laidLooks := .later }
def VerifyHeightsCardSaid : Prop := Claim7.holds Tryd.pinned (.plain (OpenSpec.ofChange verifyHeightsSpec)) verifyHeightsCard

/-- THE TIED CARD OF 'swagelaw5.VerifyMore'. -/
def verifyMoreCard : Claim7 := { stood := { row := verifyMoreRow, standIns := [], harness := (true, "0fdd693700214e93822ea87edd7ba1c574ec8db27f69e27ac28f863798f347cc"), looks := true }, kinds := [], alts := [], laidByText := true, laidKinds := [.handle], laidTests := true, laidLooks := .later }
def VerifyMoreCardSaid : Prop := Claim7.holds Tryd.pinned (.plain (OpenSpec.ofChange verifyMoreSpec)) verifyMoreCard

/-- THE TIED CARD OF 'swagelaw6.FrameStarts'. -/
def frameStartsCard : Claim7 := { stood := { row := frameStartsRow, standIns := [], harness := (true, "0fdd693700214e93822ea87edd7ba1c574ec8db27f69e27ac28f863798f347cc"), looks := true }, kinds := [], alts := [], laidByText := true, laidKinds := [.handle], laidTests := true, laidLooks := .later }
def FrameStartsCardSaid : Prop := Claim7.holds Tryd.pinned (.plain (OpenSpec.ofChange frameStartsSpec)) frameStartsCard

/-- THE TIED CARD OF 'swagelaw6.FrameForms'. -/
def frameFormsCard : Claim7 := { stood := { row := frameFormsRow, standIns := [], harness := (true, "0fdd693700214e93822ea87edd7ba1c574ec8db27f69e27ac28f863798f347cc"), looks := true }, kinds := [], alts := [], laidByText := true, laidKinds := [.handle], laidTests := true, laidLooks := .later }
def FrameFormsCardSaid : Prop := Claim7.holds Tryd.pinned (.plain (OpenSpec.ofChange frameFormsSpec)) frameFormsCard

/-- THE TIED CARD OF 'swagelaw6.FrameOver'. -/
def frameOverCard : Claim7 := { stood := { row := frameOverRow, standIns := [], harness := (true, "0fdd693700214e93822ea87edd7ba1c574ec8db27f69e27ac28f863798f347cc"), looks := true }, kinds := [], alts := [], laidByText := true, laidKinds := [.handle], laidTests := true, laidLooks := .later }
def FrameOverCardSaid : Prop := Claim7.holds Tryd.pinned (.plain (OpenSpec.ofChange frameOverSpec)) frameOverCard

/-- THE TIED CARD OF 'swagelaw6.FrameDeep'. -/
def frameDeepCard : Claim7 := { stood := { row := frameDeepRow, standIns := [], harness := (true, "0fdd693700214e93822ea87edd7ba1c574ec8db27f69e27ac28f863798f347cc"), looks := true }, kinds := [], alts := [], laidByText := true, laidKinds := [.handle], laidTests := true, laidLooks := .later }
def FrameDeepCardSaid : Prop := Claim7.holds Tryd.pinned (.plain (OpenSpec.ofChange frameDeepSpec)) frameDeepCard

/-- THE SECOND FORM's CARD OF 'swagelaw5.Verifies'. -/
def verifiesUptoCard : Claim7 := { stood := { row := verifiesUptoRow, standIns := [], harness := (true, "0fdd693700214e93822ea87edd7ba1c574ec8db27f69e27ac28f863798f347cc"), looks := true }, kinds := [], alts := [], laidByText := true, laidKinds := [.handle], laidTests := true, laidLooks := .later }
def VerifiesUptoCardSaid : Prop := Claim7.holds Tryd.pinned (.plain (OpenSpec.upto verifiesSpec)) verifiesUptoCard

/-- THE SECOND FORM's CARD OF 'swagelaw5.VerifyFlows'. -/
def verifyFlowsUptoCard : Claim7 := { stood := { row := verifyFlowsUptoRow, standIns := [], harness := (true, "0fdd693700214e93822ea87edd7ba1c574ec8db27f69e27ac28f863798f347cc"), looks := true }, kinds := [], alts := [], laidByText := true, laidKinds := [.handle], laidTests := true, laidLooks := .later }
def VerifyFlowsUptoCardSaid : Prop := Claim7.holds Tryd.pinned (.plain (OpenSpec.upto verifyFlowsSpec)) verifyFlowsUptoCard

/-- THE SECOND FORM's CARD OF 'swagelaw5.VerifyForms'. -/
def verifyFormsUptoCard : Claim7 := { stood := { row := verifyFormsUptoRow, standIns := [], harness := (true, "0fdd693700214e93822ea87edd7ba1c574ec8db27f69e27ac28f863798f347cc"), looks := true }, kinds := [], alts := [], laidByText := true, laidKinds := [.handle], laidTests := true, laidLooks := .later }
def VerifyFormsUptoCardSaid : Prop := Claim7.holds Tryd.pinned (.plain (OpenSpec.upto verifyFormsSpec)) verifyFormsUptoCard

/-- THE SECOND FORM's CARD OF 'swagelaw5.VerifyHeights'. -/
def verifyHeightsUptoCard : Claim7 := { stood := { row := verifyHeightsUptoRow, standIns := [], harness := (true, "0fdd693700214e93822ea87edd7ba1c574ec8db27f69e27ac28f863798f347cc"), looks := true }, kinds := [], alts := [], laidByText := true, laidKinds := [.handle], laidTests := true, laidLooks := .later }
def VerifyHeightsUptoCardSaid : Prop := Claim7.holds Tryd.pinned (.plain (OpenSpec.upto verifyHeightsSpec)) verifyHeightsUptoCard

/-- THE SECOND FORM's CARD OF 'swagelaw5.VerifyMore'. -/
def verifyMoreUptoCard : Claim7 := { stood := { row := verifyMoreUptoRow, standIns := [], harness := (true, "0fdd693700214e93822ea87edd7ba1c574ec8db27f69e27ac28f863798f347cc"), looks := true }, kinds := [], alts := [], laidByText := true, laidKinds := [.handle], laidTests := true, laidLooks := .later }
def VerifyMoreUptoCardSaid : Prop := Claim7.holds Tryd.pinned (.plain (OpenSpec.upto verifyMoreSpec)) verifyMoreUptoCard

/-- THE SECOND FORM's CARD OF 'swagelaw6.FrameStarts'. -/
def frameStartsUptoCard : Claim7 := { stood := { row := frameStartsUptoRow, standIns := [], harness := (true, "0fdd693700214e93822ea87edd7ba1c574ec8db27f69e27ac28f863798f347cc"), looks := true }, kinds := [], alts := [], laidByText := true, laidKinds := [.handle], laidTests := true, laidLooks := .later }
def FrameStartsUptoCardSaid : Prop := Claim7.holds Tryd.pinned (.plain (OpenSpec.upto frameStartsSpec)) frameStartsUptoCard

/-- THE SECOND FORM's CARD OF 'swagelaw6.FrameForms'. -/
def frameFormsUptoCard : Claim7 := { stood := { row := frameFormsUptoRow, standIns := [], harness := (true, "0fdd693700214e93822ea87edd7ba1c574ec8db27f69e27ac28f863798f347cc"), looks := true }, kinds := [], alts := [], laidByText := true, laidKinds := [.handle], laidTests := true, laidLooks := .later }
def FrameFormsUptoCardSaid : Prop := Claim7.holds Tryd.pinned (.plain (OpenSpec.upto frameFormsSpec)) frameFormsUptoCard

/-- THE SECOND FORM's CARD OF 'swagelaw6.FrameOver'. -/
def frameOverUptoCard : Claim7 := { stood := { row := frameOverUptoRow, standIns := [], harness := (true, "0fdd693700214e93822ea87edd7ba1c574ec8db27f69e27ac28f863798f347cc"), looks := true }, kinds := [], alts := [], laidByText := true, laidKinds := [.handle], laidTests := true, laidLooks := .later }
def FrameOverUptoCardSaid : Prop := Claim7.holds Tryd.pinned (.plain (OpenSpec.upto frameOverSpec)) frameOverUptoCard

/-- THE SECOND FORM's CARD OF 'swagelaw6.FrameDeep'. -/
def frameDeepUptoCard : Claim7 := { stood := { row := frameDeepUptoRow, standIns := [], harness := (true, "0fdd693700214e93822ea87edd7ba1c574ec8db27f69e27ac28f863798f347cc"), looks := true }, kinds := [], alts := [], laidByText := true, laidKinds := [.handle], laidTests := true, laidLooks := .later }
def FrameDeepUptoCardSaid : Prop := Claim7.holds Tryd.pinned (.plain (OpenSpec.upto frameDeepSpec)) frameDeepUptoCard
end Rows
end Go.Proofs.YtdjlaglilokjeaaDoor
