/-
  DERIVED. GIVEN WITH THE SEED: THE CARDS: each row of YtjghibdlmmjobaaGreatDoorRows.lean that lists a variable, with what it lists TIED to the program's text (the seventh form; the later family's looks); each row that meets fmt, with fmt's text TOLD by the authors' own Lean function (tested against real Go, not proved from fmt's source: count such statements apart). THE CARD IS WHAT COUNTS. Prove the row's statement (the work); the ties are given (YtjghibdlmmjobaaGreatDoorTie.lean); close each card by the builder's one call (the guide's Derived/Test/ToyasCard.lean, 'card_holds'). Laid BY PROGRAM, IN A SANDBOX (cutbox-door.mjs). By AI agents, Wed Nov 11 2026. No macro, syntax, notation, axiom, sorry.
-/
import Derived.Test.YtjghibdlmmjobaaGreatDoorRows
import GoSem.ClaimSeven
namespace Go.Proofs.YtjghibdlmmjobaaGreatDoor
namespace Rows

/-- THE TIED CARD OF 'swagelaw9.Profs'. -/
def profsCard : Claim7 := { stood := { row := profsRow, standIns := [], harness := (true, "63728f671a63f601edc8084bf154488a87af8f1b23493bf4e8e75340fcd45526"), looks := true }, kinds := [], alts := [], laidByText := true, laidKinds := [.handle], laidTests := true, laidLooks := .later }
def ProfsCardSaid : Prop := Claim7.holds Tryz.pinned (.plain (OpenSpec.ofChange profsSpec)) profsCard

/-- THE TIED CARD OF 'swagelaw7.StepKinds'. -/
def stepKindsCard : Claim7 := { stood := { row := stepKindsRow, standIns := [], harness := (true, "63728f671a63f601edc8084bf154488a87af8f1b23493bf4e8e75340fcd45526"), looks := true }, kinds := [], alts := [], laidByText := true, laidKinds := [.handle], laidTests := true, laidLooks := .later }
def StepKindsCardSaid : Prop := Claim7.holds Tryz.pinned (.plain (OpenSpec.ofChange stepKindsSpec)) stepKindsCard

/-- THE TIED CARD OF 'swagelaw7.StepEnds'. -/
def stepEndsCard : Claim7 := { stood := { row := stepEndsRow, standIns := [], harness := (true, "63728f671a63f601edc8084bf154488a87af8f1b23493bf4e8e75340fcd45526"), looks := true }, kinds := [], alts := [], laidByText := true, laidKinds := [.handle], laidTests := true, laidLooks := .later }
def StepEndsCardSaid : Prop := Claim7.holds Tryz.pinned (.plain (OpenSpec.ofChange stepEndsSpec)) stepEndsCard

/-- THE TIED CARD OF 'swagelaw20.Builds'. -/
def buildsCard : Claim7 := { stood := { row := buildsRow, standIns := [], harness := (true, "63728f671a63f601edc8084bf154488a87af8f1b23493bf4e8e75340fcd45526"), looks := true }, kinds := [], alts := [], laidByText := true, laidKinds := [.handle], laidTests := true, laidLooks := .later }
def BuildsCardSaid : Prop := Claim7.holds Tryz.pinned (.plain (OpenSpec.ofChange buildsSpec)) buildsCard

/-- THE TIED CARD OF 'swagelaw20.BuildPlain'. -/
def buildPlainCard : Claim7 := { stood := { row := buildPlainRow, standIns := [], harness := (true, "63728f671a63f601edc8084bf154488a87af8f1b23493bf4e8e75340fcd45526"), looks := true }, kinds := [], alts := [], laidByText := true, laidKinds := [.handle], laidTests := true, laidLooks := .later }
def BuildPlainCardSaid : Prop := Claim7.holds Tryz.pinned (.plain (OpenSpec.ofChange buildPlainSpec)) buildPlainCard

/-- THE TIED CARD OF 'swagelaw20.BuildForms'. -/
def buildFormsCard : Claim7 := { stood := { row := buildFormsRow, standIns := [], harness := (true, "63728f671a63f601edc8084bf154488a87af8f1b23493bf4e8e75340fcd45526"), looks := true }, kinds := [], alts := [], laidByText := true, laidKinds := [.handle], laidTests := true, laidLooks := .later }
def BuildFormsCardSaid : Prop := Claim7.holds Tryz.pinned (.plain (OpenSpec.ofChange buildFormsSpec)) buildFormsCard

/-- THE TIED CARD OF 'swagelaw20.BuildMay'. -/
def buildMayCard : Claim7 := { stood := { row := buildMayRow, standIns := [], harness := (true, "63728f671a63f601edc8084bf154488a87af8f1b23493bf4e8e75340fcd45526"), looks := true }, kinds := [], alts := [], laidByText := true, laidKinds := [.handle], laidTests := true, laidLooks := .later }
def BuildMayCardSaid : Prop := Claim7.holds Tryz.pinned (.plain (OpenSpec.ofChange buildMaySpec)) buildMayCard

/-- THE TIED CARD OF 'swagelaw12.Execs'. -/
def execsCard : Claim7 := { stood := { row := execsRow, standIns := [], harness := (true, "63728f671a63f601edc8084bf154488a87af8f1b23493bf4e8e75340fcd45526"), looks := true }, kinds := [], alts := [], laidByText := true, laidKinds := [.handle], laidTests := true, laidLooks := .later }
def ExecsCardSaid : Prop := Claim7.holds Tryz.pinned (.plain (OpenSpec.ofChange execsSpec)) execsCard

/-- THE TIED CARD OF 'swagelaw12.ExecCosts'. -/
def execCostsCard : Claim7 := { stood := { row := execCostsRow, standIns := [], harness := (true, "63728f671a63f601edc8084bf154488a87af8f1b23493bf4e8e75340fcd45526"), looks := true }, kinds := [], alts := [], laidByText := true, laidKinds := [.handle], laidTests := true, laidLooks := .later }
def ExecCostsCardSaid : Prop := Claim7.holds Tryz.pinned (.plain (OpenSpec.ofChange execCostsSpec)) execCostsCard

/-- THE TIED CARD OF 'swagelaw12.ExecKinds'. -/
def execKindsCard : Claim7 := { stood := { row := execKindsRow, standIns := [], harness := (true, "63728f671a63f601edc8084bf154488a87af8f1b23493bf4e8e75340fcd45526"), looks := true }, kinds := [], alts := [], laidByText := true, laidKinds := [.handle], laidTests := true, laidLooks := .later }
def ExecKindsCardSaid : Prop := Claim7.holds Tryz.pinned (.plain (OpenSpec.ofChange execKindsSpec)) execKindsCard

/-- THE TIED CARD OF 'swagelaw12.ExecLimits'. -/
def execLimitsCard : Claim7 := { stood := { row := execLimitsRow, standIns := [], harness := (true, "63728f671a63f601edc8084bf154488a87af8f1b23493bf4e8e75340fcd45526"), looks := true }, kinds := [], alts := [], laidByText := true, laidKinds := [.handle], laidTests := true, laidLooks := .later }
def ExecLimitsCardSaid : Prop := Claim7.holds Tryz.pinned (.plain (OpenSpec.ofChange execLimitsSpec)) execLimitsCard

/-- THE TIED CARD OF 'swagelaw12.ExecWalks'. -/
def execWalksCard : Claim7 := { stood := { row := execWalksRow, standIns := [], harness := (true, "63728f671a63f601edc8084bf154488a87af8f1b23493bf4e8e75340fcd45526"), looks := true }, kinds := [], alts := [], laidByText := true, laidKinds := [.handle], laidTests := true, laidLooks := .later }
def ExecWalksCardSaid : Prop := Claim7.holds Tryz.pinned (.plain (OpenSpec.ofChange execWalksSpec)) execWalksCard

/-- THE TIED CARD OF 'swagelaw17.Deads'. -/
def deadsCard : Claim7 := { stood := { row := deadsRow, standIns := [], harness := (true, "63728f671a63f601edc8084bf154488a87af8f1b23493bf4e8e75340fcd45526"), looks := true }, kinds := [], alts := [], laidByText := true, laidKinds := [.handle], laidTests := true, laidLooks := .later }
def DeadsCardSaid : Prop := Claim7.holds Tryz.pinned (.plain (OpenSpec.ofChange deadsSpec)) deadsCard

/-- THE SECOND FORM's CARD OF 'swagelaw9.Profs'. -/
def profsUptoCard : Claim7 := { stood := { row := profsUptoRow, standIns := [], harness := (true, "63728f671a63f601edc8084bf154488a87af8f1b23493bf4e8e75340fcd45526"), looks := true }, kinds := [], alts := [], laidByText := true, laidKinds := [.handle], laidTests := true, laidLooks := .later }
def ProfsUptoCardSaid : Prop := Claim7.holds Tryz.pinned (.plain (OpenSpec.upto profsSpec)) profsUptoCard

/-- THE SECOND FORM's CARD OF 'swagelaw7.StepKinds'. -/
def stepKindsUptoCard : Claim7 := { stood := { row := stepKindsUptoRow, standIns := [], harness := (true, "63728f671a63f601edc8084bf154488a87af8f1b23493bf4e8e75340fcd45526"), looks := true }, kinds := [], alts := [], laidByText := true, laidKinds := [.handle], laidTests := true, laidLooks := .later }
def StepKindsUptoCardSaid : Prop := Claim7.holds Tryz.pinned (.plain (OpenSpec.upto stepKindsSpec)) stepKindsUptoCard

/-- THE SECOND FORM's CARD OF 'swagelaw7.StepEnds'. -/
def stepEndsUptoCard : Claim7 := { stood := { row := stepEndsUptoRow, standIns := [], harness := (true, "63728f671a63f601edc8084bf154488a87af8f1b23493bf4e8e75340fcd45526"), looks := true }, kinds := [], alts := [], laidByText := true, laidKinds := [.handle], laidTests := true, laidLooks := .later }
def StepEndsUptoCardSaid : Prop := Claim7.holds Tryz.pinned (.plain (OpenSpec.upto stepEndsSpec)) stepEndsUptoCard

/-- THE SECOND FORM's CARD OF 'swagelaw20.Builds'. -/
def buildsUptoCard : Claim7 := { stood := { row := buildsUptoRow, standIns := [], harness := (true, "63728f671a63f601edc8084bf154488a87af8f1b23493bf4e8e75340fcd45526"), looks := true }, kinds := [], alts := [], laidByText := true, laidKinds := [.handle], laidTests := true, laidLooks := .later }
def BuildsUptoCardSaid : Prop := Claim7.holds Tryz.pinned (.plain (OpenSpec.upto buildsSpec)) buildsUptoCard

/-- THE SECOND FORM's CARD OF 'swagelaw20.BuildPlain'. -/
def buildPlainUptoCard : Claim7 := { stood := { row := buildPlainUptoRow, standIns := [], harness := (true, "63728f671a63f601edc8084bf154488a87af8f1b23493bf4e8e75340fcd45526"), looks := true }, kinds := [], alts := [], laidByText := true, laidKinds := [.handle], laidTests := true, laidLooks := .later }
def BuildPlainUptoCardSaid : Prop := Claim7.holds Tryz.pinned (.plain (OpenSpec.upto buildPlainSpec)) buildPlainUptoCard

/-- THE SECOND FORM's CARD OF 'swagelaw20.BuildForms'. -/
def buildFormsUptoCard : Claim7 := { stood := { row := buildFormsUptoRow, standIns := [], harness := (true, "63728f671a63f601edc8084bf154488a87af8f1b23493bf4e8e75340fcd45526"), looks := true }, kinds := [], alts := [], laidByText := true, laidKinds := [.handle], laidTests := true, laidLooks := .later }
def BuildFormsUptoCardSaid : Prop := Claim7.holds Tryz.pinned (.plain (OpenSpec.upto buildFormsSpec)) buildFormsUptoCard

/-- THE SECOND FORM's CARD OF 'swagelaw20.BuildMay'. -/
def buildMayUptoCard : Claim7 := { stood := { row := buildMayUptoRow, standIns := [], harness := (true, "63728f671a63f601edc8084bf154488a87af8f1b23493bf4e8e75340fcd45526"), looks := true }, kinds := [], alts := [], laidByText := true, laidKinds := [.handle], laidTests := true, laidLooks := .later }
def BuildMayUptoCardSaid : Prop := Claim7.holds Tryz.pinned (.plain (OpenSpec.upto buildMaySpec)) buildMayUptoCard

/-- THE SECOND FORM's CARD OF 'swagelaw12.Execs'. -/
def execsUptoCard : Claim7 := { stood := { row := execsUptoRow, standIns := [], harness := (true, "63728f671a63f601edc8084bf154488a87af8f1b23493bf4e8e75340fcd45526"), looks := true }, kinds := [], alts := [], laidByText := true, laidKinds := [.handle], laidTests := true, laidLooks := .later }
def ExecsUptoCardSaid : Prop := Claim7.holds Tryz.pinned (.plain (OpenSpec.upto execsSpec)) execsUptoCard

/-- THE SECOND FORM's CARD OF 'swagelaw12.ExecCosts'. -/
def execCostsUptoCard : Claim7 := { stood := { row := execCostsUptoRow, standIns := [], harness := (true, "63728f671a63f601edc8084bf154488a87af8f1b23493bf4e8e75340fcd45526"), looks := true }, kinds := [], alts := [], laidByText := true, laidKinds := [.handle], laidTests := true, laidLooks := .later }
def ExecCostsUptoCardSaid : Prop := Claim7.holds Tryz.pinned (.plain (OpenSpec.upto execCostsSpec)) execCostsUptoCard

/-- THE SECOND FORM's CARD OF 'swagelaw12.ExecKinds'. -/
def execKindsUptoCard : Claim7 := { stood := { row := execKindsUptoRow, standIns := [], harness := (true, "63728f671a63f601edc8084bf154488a87af8f1b23493bf4e8e75340fcd45526"), looks := true }, kinds := [], alts := [], laidByText := true, laidKinds := [.handle], laidTests := true, laidLooks := .later }
def ExecKindsUptoCardSaid : Prop := Claim7.holds Tryz.pinned (.plain (OpenSpec.upto execKindsSpec)) execKindsUptoCard

/-- THE SECOND FORM's CARD OF 'swagelaw12.ExecLimits'. -/
def execLimitsUptoCard : Claim7 := { stood := { row := execLimitsUptoRow, standIns := [], harness := (true, "63728f671a63f601edc8084bf154488a87af8f1b23493bf4e8e75340fcd45526"), looks := true }, kinds := [], alts := [], laidByText := true, laidKinds := [.handle], laidTests := true, laidLooks := .later }
def ExecLimitsUptoCardSaid : Prop := Claim7.holds Tryz.pinned (.plain (OpenSpec.upto execLimitsSpec)) execLimitsUptoCard

/-- THE SECOND FORM's CARD OF 'swagelaw12.ExecWalks'. -/
def execWalksUptoCard : Claim7 := { stood := { row := execWalksUptoRow, standIns := [], harness := (true, "63728f671a63f601edc8084bf154488a87af8f1b23493bf4e8e75340fcd45526"), looks := true }, kinds := [], alts := [], laidByText := true, laidKinds := [.handle], laidTests := true, laidLooks := .later }
def ExecWalksUptoCardSaid : Prop := Claim7.holds Tryz.pinned (.plain (OpenSpec.upto execWalksSpec)) execWalksUptoCard

/-- THE SECOND FORM's CARD OF 'swagelaw17.Deads'. -/
def deadsUptoCard : Claim7 := { stood := { row := deadsUptoRow, standIns := [], harness := (true, "63728f671a63f601edc8084bf154488a87af8f1b23493bf4e8e75340fcd45526"), looks := true }, kinds := [], alts := [], laidByText := true, laidKinds := [.handle], laidTests := true, laidLooks := .later }
def DeadsUptoCardSaid : Prop := Claim7.holds Tryz.pinned (.plain (OpenSpec.upto deadsSpec)) deadsUptoCard
end Rows
end Go.Proofs.YtjghibdlmmjobaaGreatDoor
