/-
  NARROWER THAN 'FOR EVERY INPUT', by the rows' own cells (each row's printed sentence says how): Profs: laid · StepKinds: laid · StepEnds: laid · Builds: laid · BuildPlain: laid · BuildForms: laid · BuildMay: laid · Execs: laid · ExecCosts: laid · ExecKinds: laid · ExecLimits: laid · ExecWalks: laid · Deads: laid.
  DERIVED. THE GIVEN ROWS OF THIS SEAT. 13 by the template 'for every input the law returns true; each argument reads behind the call as it read before'; 0 by the template 'total and deterministic' (their statements: YtjghibdlmmjobaaGreatDoorTotals.lean).
  GIVEN WITH THE SEED: the statements are not yours to turn. If you find one false, say at which input.
  Laid BY PROGRAM, IN A SANDBOX (cutbox-rows.mjs): the forced cells as the released guide's own fill.sh prints them over the translation 770e2f05a6e815d6… (all of the seat's roots in one cut). By AI agents, Wed Nov 11 2026. No macro, syntax, notation, axiom, sorry.
-/
import Derived.Test.YtjghibdlmmjobaaGreatDoorChecked
import GoSem.Claim
import GoSem.ClaimJoined
import GoSem.ClaimMapViews
import Derived.JoinedTies
import Derived.KernelRfl
namespace Go.Proofs.YtjghibdlmmjobaaGreatDoor
/- THE CELL 'sum', in the pinned program and in every row, IS THE sha256 OF THE DUMP (.gsa) THAT YtjghibdlmmjobaaGreatDoorProg.lean LOADS. Nothing in Lean hashes anything: it is a label: what it is worth is what the hold of that sum in a sandbox is worth. -/
noncomputable def Tryz.pinned : Pinned := { name := "ytjghibdlmmjobaagreatdoor", sum := "770e2f05a6e815d6d3360ab9e102c47c92ef3485df2c580f3056fc733e3a6cde", checked := Tryz.checked }
namespace Rows
def none {H : Type} : Left H := { results := [], args := [] }

/- WHAT THE LISTED PACKAGE-LEVEL VARIABLES READ AS WHEN THE CALL BEGINS. Each datum BY PROGRAM (the guide's laid-datum.mjs) off the statement by which the dump's own 'gosem.cut.vars' lays the variable. In a bare row this is a premise. The card (YtjghibdlmmjobaaGreatDoorCards.lean) ties it to the program's text. -/
def laid_errors_errorType {H : Type} : DataW H := .iface "internal/reflectlite.rtype" (.agg [.ptr (.lit (.string [101, 114, 114, 111, 114]))])

/-- 'swagelaw9.Profs': WHATEVER THE INPUT: true; the input reads as it did. -/
def profsSpec : ChangeSpec := { name := "profs", fn := fun _ => fun
  | [d1, d2, d3, d4, d5, d6] => { results := [.lit (.bool true)], args := [d1, d2, d3, d4, d5, d6] }
  | _ => none }
def profsRow : OpenClaim := { program := "ytjghibdlmmjobaagreatdoor", sum := "770e2f05a6e815d6d3360ab9e102c47c92ef3485df2c580f3056fc733e3a6cde", func := "swage/swagelaw9.Profs", spec := "profs", inPlace := ["internal/reflectlite.ValueOf", "(internal/reflectlite.Value).Type", "(internal/reflectlite.Value).IsNil", "internal/reflectlite.TypeOf", "(internal/reflectlite.Value).Elem", "(internal/reflectlite.Value).Set"], unfollowed := true, recurses := true, named := ["errors.errorType"], apart := false, laid := [("errors.errorType", laid_errors_errorType)] }
def ProfsSaid : Prop := profsRow.holds Tryz.pinned (OpenSpec.ofChange profsSpec)

/-- ITS FALSE NEIGHBOUR: 'it returns false'. Refute it at one input. -/
def profsWrong : ChangeSpec := { name := "profs", fn := fun _ => fun
  | [d1, d2, d3, d4, d5, d6] => { results := [.lit (.bool false)], args := [d1, d2, d3, d4, d5, d6] }
  | _ => none }
def ProfsWrongFalsely : Prop := profsRow.holds Tryz.pinned (OpenSpec.ofChange profsWrong)

/-- 'swagelaw7.StepKinds': WHATEVER THE INPUT: true; the input reads as it did. -/
def stepKindsSpec : ChangeSpec := { name := "stepKinds", fn := fun _ => fun
  | [d1, d2, d3] => { results := [.lit (.bool true)], args := [d1, d2, d3] }
  | _ => none }
def stepKindsRow : OpenClaim := { program := "ytjghibdlmmjobaagreatdoor", sum := "770e2f05a6e815d6d3360ab9e102c47c92ef3485df2c580f3056fc733e3a6cde", func := "swage/swagelaw7.StepKinds", spec := "stepKinds", inPlace := ["internal/reflectlite.ValueOf", "(internal/reflectlite.Value).Type", "(internal/reflectlite.Value).IsNil", "internal/reflectlite.TypeOf", "(internal/reflectlite.Value).Elem", "(internal/reflectlite.Value).Set"], unfollowed := true, recurses := true, named := ["errors.errorType"], apart := false, laid := [("errors.errorType", laid_errors_errorType)] }
def StepKindsSaid : Prop := stepKindsRow.holds Tryz.pinned (OpenSpec.ofChange stepKindsSpec)

/-- ITS FALSE NEIGHBOUR: 'it returns false'. Refute it at one input. -/
def stepKindsWrong : ChangeSpec := { name := "stepKinds", fn := fun _ => fun
  | [d1, d2, d3] => { results := [.lit (.bool false)], args := [d1, d2, d3] }
  | _ => none }
def StepKindsWrongFalsely : Prop := stepKindsRow.holds Tryz.pinned (OpenSpec.ofChange stepKindsWrong)

/-- 'swagelaw7.StepEnds': WHATEVER THE INPUT: true; the input reads as it did. -/
def stepEndsSpec : ChangeSpec := { name := "stepEnds", fn := fun _ => fun
  | [d1, d2] => { results := [.lit (.bool true)], args := [d1, d2] }
  | _ => none }
def stepEndsRow : OpenClaim := { program := "ytjghibdlmmjobaagreatdoor", sum := "770e2f05a6e815d6d3360ab9e102c47c92ef3485df2c580f3056fc733e3a6cde", func := "swage/swagelaw7.StepEnds", spec := "stepEnds", inPlace := ["internal/reflectlite.ValueOf", "(internal/reflectlite.Value).Type", "(internal/reflectlite.Value).IsNil", "internal/reflectlite.TypeOf", "(internal/reflectlite.Value).Elem", "(internal/reflectlite.Value).Set"], unfollowed := true, recurses := true, named := ["errors.errorType"], apart := false, laid := [("errors.errorType", laid_errors_errorType)] }
def StepEndsSaid : Prop := stepEndsRow.holds Tryz.pinned (OpenSpec.ofChange stepEndsSpec)

/-- ITS FALSE NEIGHBOUR: 'it returns false'. Refute it at one input. -/
def stepEndsWrong : ChangeSpec := { name := "stepEnds", fn := fun _ => fun
  | [d1, d2] => { results := [.lit (.bool false)], args := [d1, d2] }
  | _ => none }
def StepEndsWrongFalsely : Prop := stepEndsRow.holds Tryz.pinned (OpenSpec.ofChange stepEndsWrong)

/-- 'swagelaw20.Builds': WHATEVER THE INPUT: true; the input reads as it did. -/
def buildsSpec : ChangeSpec := { name := "builds", fn := fun _ => fun
  | [d1, d2, d3, d4] => { results := [.lit (.bool true)], args := [d1, d2, d3, d4] }
  | _ => none }
def buildsRow : OpenClaim := { program := "ytjghibdlmmjobaagreatdoor", sum := "770e2f05a6e815d6d3360ab9e102c47c92ef3485df2c580f3056fc733e3a6cde", func := "swage/swagelaw20.Builds", spec := "builds", inPlace := ["internal/reflectlite.ValueOf", "(internal/reflectlite.Value).Type", "(internal/reflectlite.Value).IsNil", "internal/reflectlite.TypeOf", "(internal/reflectlite.Value).Elem", "(internal/reflectlite.Value).Set"], unfollowed := true, recurses := true, named := ["errors.errorType"], apart := false, laid := [("errors.errorType", laid_errors_errorType)] }
def BuildsSaid : Prop := buildsRow.holds Tryz.pinned (OpenSpec.ofChange buildsSpec)

/-- ITS FALSE NEIGHBOUR: 'it returns false'. Refute it at one input. -/
def buildsWrong : ChangeSpec := { name := "builds", fn := fun _ => fun
  | [d1, d2, d3, d4] => { results := [.lit (.bool false)], args := [d1, d2, d3, d4] }
  | _ => none }
def BuildsWrongFalsely : Prop := buildsRow.holds Tryz.pinned (OpenSpec.ofChange buildsWrong)

/-- 'swagelaw20.BuildPlain': WHATEVER THE INPUT: true; the input reads as it did. -/
def buildPlainSpec : ChangeSpec := { name := "buildPlain", fn := fun _ => fun
  | [d1, d2, d3] => { results := [.lit (.bool true)], args := [d1, d2, d3] }
  | _ => none }
def buildPlainRow : OpenClaim := { program := "ytjghibdlmmjobaagreatdoor", sum := "770e2f05a6e815d6d3360ab9e102c47c92ef3485df2c580f3056fc733e3a6cde", func := "swage/swagelaw20.BuildPlain", spec := "buildPlain", inPlace := ["internal/reflectlite.ValueOf", "(internal/reflectlite.Value).Type", "(internal/reflectlite.Value).IsNil", "internal/reflectlite.TypeOf", "(internal/reflectlite.Value).Elem", "(internal/reflectlite.Value).Set"], unfollowed := true, recurses := true, named := ["errors.errorType"], apart := false, laid := [("errors.errorType", laid_errors_errorType)] }
def BuildPlainSaid : Prop := buildPlainRow.holds Tryz.pinned (OpenSpec.ofChange buildPlainSpec)

/-- ITS FALSE NEIGHBOUR: 'it returns false'. Refute it at one input. -/
def buildPlainWrong : ChangeSpec := { name := "buildPlain", fn := fun _ => fun
  | [d1, d2, d3] => { results := [.lit (.bool false)], args := [d1, d2, d3] }
  | _ => none }
def BuildPlainWrongFalsely : Prop := buildPlainRow.holds Tryz.pinned (OpenSpec.ofChange buildPlainWrong)

/-- 'swagelaw20.BuildForms': WHATEVER THE INPUT: true; the input reads as it did. -/
def buildFormsSpec : ChangeSpec := { name := "buildForms", fn := fun _ => fun
  | [d] => { results := [.lit (.bool true)], args := [d] }
  | _ => none }
def buildFormsRow : OpenClaim := { program := "ytjghibdlmmjobaagreatdoor", sum := "770e2f05a6e815d6d3360ab9e102c47c92ef3485df2c580f3056fc733e3a6cde", func := "swage/swagelaw20.BuildForms", spec := "buildForms", inPlace := ["internal/reflectlite.ValueOf", "(internal/reflectlite.Value).Type", "(internal/reflectlite.Value).IsNil", "internal/reflectlite.TypeOf", "(internal/reflectlite.Value).Elem", "(internal/reflectlite.Value).Set"], unfollowed := true, recurses := true, named := ["errors.errorType"], apart := false, laid := [("errors.errorType", laid_errors_errorType)] }
def BuildFormsSaid : Prop := buildFormsRow.holds Tryz.pinned (OpenSpec.ofChange buildFormsSpec)

/-- ITS FALSE NEIGHBOUR: 'it returns false'. Refute it at one input. -/
def buildFormsWrong : ChangeSpec := { name := "buildForms", fn := fun _ => fun
  | [d] => { results := [.lit (.bool false)], args := [d] }
  | _ => none }
def BuildFormsWrongFalsely : Prop := buildFormsRow.holds Tryz.pinned (OpenSpec.ofChange buildFormsWrong)

/-- 'swagelaw20.BuildMay': WHATEVER THE INPUT: true; the input reads as it did. -/
def buildMaySpec : ChangeSpec := { name := "buildMay", fn := fun _ => fun
  | [d1, d2, d3, d4] => { results := [.lit (.bool true)], args := [d1, d2, d3, d4] }
  | _ => none }
def buildMayRow : OpenClaim := { program := "ytjghibdlmmjobaagreatdoor", sum := "770e2f05a6e815d6d3360ab9e102c47c92ef3485df2c580f3056fc733e3a6cde", func := "swage/swagelaw20.BuildMay", spec := "buildMay", inPlace := ["internal/reflectlite.ValueOf", "(internal/reflectlite.Value).Type", "(internal/reflectlite.Value).IsNil", "internal/reflectlite.TypeOf", "(internal/reflectlite.Value).Elem", "(internal/reflectlite.Value).Set"], unfollowed := true, recurses := true, named := ["errors.errorType"], apart := false, laid := [("errors.errorType", laid_errors_errorType)] }
def BuildMaySaid : Prop := buildMayRow.holds Tryz.pinned (OpenSpec.ofChange buildMaySpec)

/-- ITS FALSE NEIGHBOUR: 'it returns false'. Refute it at one input. -/
def buildMayWrong : ChangeSpec := { name := "buildMay", fn := fun _ => fun
  | [d1, d2, d3, d4] => { results := [.lit (.bool false)], args := [d1, d2, d3, d4] }
  | _ => none }
def BuildMayWrongFalsely : Prop := buildMayRow.holds Tryz.pinned (OpenSpec.ofChange buildMayWrong)

/-- 'swagelaw12.Execs': WHATEVER THE INPUT: true; the input reads as it did. -/
def execsSpec : ChangeSpec := { name := "execs", fn := fun _ => fun
  | [d1, d2, d3, d4, d5, d6, d7] => { results := [.lit (.bool true)], args := [d1, d2, d3, d4, d5, d6, d7] }
  | _ => none }
def execsRow : OpenClaim := { program := "ytjghibdlmmjobaagreatdoor", sum := "770e2f05a6e815d6d3360ab9e102c47c92ef3485df2c580f3056fc733e3a6cde", func := "swage/swagelaw12.Execs", spec := "execs", inPlace := ["internal/reflectlite.ValueOf", "(internal/reflectlite.Value).Type", "(internal/reflectlite.Value).IsNil", "internal/reflectlite.TypeOf", "(internal/reflectlite.Value).Elem", "(internal/reflectlite.Value).Set"], unfollowed := true, recurses := true, named := ["errors.errorType"], apart := false, laid := [("errors.errorType", laid_errors_errorType)] }
def ExecsSaid : Prop := execsRow.holds Tryz.pinned (OpenSpec.ofChange execsSpec)

/-- ITS FALSE NEIGHBOUR: 'it returns false'. Refute it at one input. -/
def execsWrong : ChangeSpec := { name := "execs", fn := fun _ => fun
  | [d1, d2, d3, d4, d5, d6, d7] => { results := [.lit (.bool false)], args := [d1, d2, d3, d4, d5, d6, d7] }
  | _ => none }
def ExecsWrongFalsely : Prop := execsRow.holds Tryz.pinned (OpenSpec.ofChange execsWrong)

/-- 'swagelaw12.ExecCosts': WHATEVER THE INPUT: true; the input reads as it did. -/
def execCostsSpec : ChangeSpec := { name := "execCosts", fn := fun _ => fun
  | [d1, d2, d3, d4, d5] => { results := [.lit (.bool true)], args := [d1, d2, d3, d4, d5] }
  | _ => none }
def execCostsRow : OpenClaim := { program := "ytjghibdlmmjobaagreatdoor", sum := "770e2f05a6e815d6d3360ab9e102c47c92ef3485df2c580f3056fc733e3a6cde", func := "swage/swagelaw12.ExecCosts", spec := "execCosts", inPlace := ["internal/reflectlite.ValueOf", "(internal/reflectlite.Value).Type", "(internal/reflectlite.Value).IsNil", "internal/reflectlite.TypeOf", "(internal/reflectlite.Value).Elem", "(internal/reflectlite.Value).Set"], unfollowed := true, recurses := true, named := ["errors.errorType"], apart := false, laid := [("errors.errorType", laid_errors_errorType)] }
def ExecCostsSaid : Prop := execCostsRow.holds Tryz.pinned (OpenSpec.ofChange execCostsSpec)

/-- ITS FALSE NEIGHBOUR: 'it returns false'. Refute it at one input. -/
def execCostsWrong : ChangeSpec := { name := "execCosts", fn := fun _ => fun
  | [d1, d2, d3, d4, d5] => { results := [.lit (.bool false)], args := [d1, d2, d3, d4, d5] }
  | _ => none }
def ExecCostsWrongFalsely : Prop := execCostsRow.holds Tryz.pinned (OpenSpec.ofChange execCostsWrong)

/-- 'swagelaw12.ExecKinds': WHATEVER THE INPUT: true; the input reads as it did. -/
def execKindsSpec : ChangeSpec := { name := "execKinds", fn := fun _ => fun
  | [d1, d2, d3] => { results := [.lit (.bool true)], args := [d1, d2, d3] }
  | _ => none }
def execKindsRow : OpenClaim := { program := "ytjghibdlmmjobaagreatdoor", sum := "770e2f05a6e815d6d3360ab9e102c47c92ef3485df2c580f3056fc733e3a6cde", func := "swage/swagelaw12.ExecKinds", spec := "execKinds", inPlace := ["internal/reflectlite.ValueOf", "(internal/reflectlite.Value).Type", "(internal/reflectlite.Value).IsNil", "internal/reflectlite.TypeOf", "(internal/reflectlite.Value).Elem", "(internal/reflectlite.Value).Set"], unfollowed := true, recurses := true, named := ["errors.errorType"], apart := false, laid := [("errors.errorType", laid_errors_errorType)] }
def ExecKindsSaid : Prop := execKindsRow.holds Tryz.pinned (OpenSpec.ofChange execKindsSpec)

/-- ITS FALSE NEIGHBOUR: 'it returns false'. Refute it at one input. -/
def execKindsWrong : ChangeSpec := { name := "execKinds", fn := fun _ => fun
  | [d1, d2, d3] => { results := [.lit (.bool false)], args := [d1, d2, d3] }
  | _ => none }
def ExecKindsWrongFalsely : Prop := execKindsRow.holds Tryz.pinned (OpenSpec.ofChange execKindsWrong)

/-- 'swagelaw12.ExecLimits': WHATEVER THE INPUT: true; the input reads as it did. -/
def execLimitsSpec : ChangeSpec := { name := "execLimits", fn := fun _ => fun
  | [d1, d2] => { results := [.lit (.bool true)], args := [d1, d2] }
  | _ => none }
def execLimitsRow : OpenClaim := { program := "ytjghibdlmmjobaagreatdoor", sum := "770e2f05a6e815d6d3360ab9e102c47c92ef3485df2c580f3056fc733e3a6cde", func := "swage/swagelaw12.ExecLimits", spec := "execLimits", inPlace := ["internal/reflectlite.ValueOf", "(internal/reflectlite.Value).Type", "(internal/reflectlite.Value).IsNil", "internal/reflectlite.TypeOf", "(internal/reflectlite.Value).Elem", "(internal/reflectlite.Value).Set"], unfollowed := true, recurses := true, named := ["errors.errorType"], apart := false, laid := [("errors.errorType", laid_errors_errorType)] }
def ExecLimitsSaid : Prop := execLimitsRow.holds Tryz.pinned (OpenSpec.ofChange execLimitsSpec)

/-- ITS FALSE NEIGHBOUR: 'it returns false'. Refute it at one input. -/
def execLimitsWrong : ChangeSpec := { name := "execLimits", fn := fun _ => fun
  | [d1, d2] => { results := [.lit (.bool false)], args := [d1, d2] }
  | _ => none }
def ExecLimitsWrongFalsely : Prop := execLimitsRow.holds Tryz.pinned (OpenSpec.ofChange execLimitsWrong)

/-- 'swagelaw12.ExecWalks': WHATEVER THE INPUT: true; the input reads as it did. -/
def execWalksSpec : ChangeSpec := { name := "execWalks", fn := fun _ => fun
  | [d1, d2, d3] => { results := [.lit (.bool true)], args := [d1, d2, d3] }
  | _ => none }
def execWalksRow : OpenClaim := { program := "ytjghibdlmmjobaagreatdoor", sum := "770e2f05a6e815d6d3360ab9e102c47c92ef3485df2c580f3056fc733e3a6cde", func := "swage/swagelaw12.ExecWalks", spec := "execWalks", inPlace := ["internal/reflectlite.ValueOf", "(internal/reflectlite.Value).Type", "(internal/reflectlite.Value).IsNil", "internal/reflectlite.TypeOf", "(internal/reflectlite.Value).Elem", "(internal/reflectlite.Value).Set"], unfollowed := true, recurses := true, named := ["errors.errorType"], apart := false, laid := [("errors.errorType", laid_errors_errorType)] }
def ExecWalksSaid : Prop := execWalksRow.holds Tryz.pinned (OpenSpec.ofChange execWalksSpec)

/-- ITS FALSE NEIGHBOUR: 'it returns false'. Refute it at one input. -/
def execWalksWrong : ChangeSpec := { name := "execWalks", fn := fun _ => fun
  | [d1, d2, d3] => { results := [.lit (.bool false)], args := [d1, d2, d3] }
  | _ => none }
def ExecWalksWrongFalsely : Prop := execWalksRow.holds Tryz.pinned (OpenSpec.ofChange execWalksWrong)

/-- 'swagelaw17.Deads': WHATEVER THE INPUT: true; the input reads as it did. -/
def deadsSpec : ChangeSpec := { name := "deads", fn := fun _ => fun
  | [d1, d2] => { results := [.lit (.bool true)], args := [d1, d2] }
  | _ => none }
def deadsRow : OpenClaim := { program := "ytjghibdlmmjobaagreatdoor", sum := "770e2f05a6e815d6d3360ab9e102c47c92ef3485df2c580f3056fc733e3a6cde", func := "swage/swagelaw17.Deads", spec := "deads", inPlace := ["internal/reflectlite.ValueOf", "(internal/reflectlite.Value).Type", "(internal/reflectlite.Value).IsNil", "internal/reflectlite.TypeOf", "(internal/reflectlite.Value).Elem", "(internal/reflectlite.Value).Set"], unfollowed := true, recurses := true, named := ["errors.errorType"], apart := false, laid := [("errors.errorType", laid_errors_errorType)] }
def DeadsSaid : Prop := deadsRow.holds Tryz.pinned (OpenSpec.ofChange deadsSpec)

/-- ITS FALSE NEIGHBOUR: 'it returns false'. Refute it at one input. -/
def deadsWrong : ChangeSpec := { name := "deads", fn := fun _ => fun
  | [d1, d2] => { results := [.lit (.bool false)], args := [d1, d2] }
  | _ => none }
def DeadsWrongFalsely : Prop := deadsRow.holds Tryz.pinned (OpenSpec.ofChange deadsWrong)

/- THE SECOND FORM. 'bulk': how many values and letters a reading holds, each counted each time it is reached (what is shared counts as often as it is met; a slice's spare places count too). A statement '..UptoSaid' is the law's where the arguments, and the package variables that the reading takes, are together of bulk at most 1048576: NARROWER than '..Said'. Prove '..Said' where nothing that the law and all that it calls make is longer than what came in: it says more and counts as full. Else prove '..UptoSaid'. A law counts once. -/
mutual
def uptoBulk {H : Type} : DataW H → Nat
  | .lit (.string bytes) => bytes.length + 1
  | .lit _ => 1
  | .nil => 1
  | .ptr d => uptoBulk d + 1
  | .slice elems spare => uptoBulkAll elems + uptoBulkAll spare + 1
  | .agg parts => uptoBulkAll parts + 1
  | .iface _ d => uptoBulk d + 1
  | .map entries => uptoBulkEntries entries + 1
  | .held _ => 1
def uptoBulkAll {H : Type} : List (DataW H) → Nat
  | [] => 0
  | d :: r => uptoBulk d + uptoBulkAll r
def uptoBulkEntries {H : Type} : List (Lit × DataW H) → Nat
  | [] => 0
  | x :: r => uptoBulkEntry x + uptoBulkEntries r
def uptoBulkEntry {H : Type} : Lit × DataW H → Nat
  | (.string bytes, d) => bytes.length + uptoBulk d + 1
  | (_, d) => uptoBulk d + 1
 end
def uptoSmall : (H : Type) → List (DataW H) → Bool := fun _ ds => decide (uptoBulkAll ds ≤ 1048576)
def OpenSpec.upto (s : _root_.Go.ChangeSpec) : _root_.Go.OpenSpec := { _root_.Go.OpenSpec.ofChange s with cond := some uptoSmall }

/-- 'swagelaw9.Profs', WHERE WHAT IT READS IS OF BULK AT MOST 1048576: true; the input reads as it did. -/
def profsUptoRow : OpenClaim := { program := "ytjghibdlmmjobaagreatdoor", sum := "770e2f05a6e815d6d3360ab9e102c47c92ef3485df2c580f3056fc733e3a6cde", func := "swage/swagelaw9.Profs", spec := "profs", inPlace := ["internal/reflectlite.ValueOf", "(internal/reflectlite.Value).Type", "(internal/reflectlite.Value).IsNil", "internal/reflectlite.TypeOf", "(internal/reflectlite.Value).Elem", "(internal/reflectlite.Value).Set"], unfollowed := true, recurses := true, named := ["errors.errorType"], apart := false, laid := [("errors.errorType", laid_errors_errorType)], narrowed := true }
def ProfsUptoSaid : Prop := profsUptoRow.holds Tryz.pinned (OpenSpec.upto profsSpec)

/-- 'swagelaw7.StepKinds', WHERE WHAT IT READS IS OF BULK AT MOST 1048576: true; the input reads as it did. -/
def stepKindsUptoRow : OpenClaim := { program := "ytjghibdlmmjobaagreatdoor", sum := "770e2f05a6e815d6d3360ab9e102c47c92ef3485df2c580f3056fc733e3a6cde", func := "swage/swagelaw7.StepKinds", spec := "stepKinds", inPlace := ["internal/reflectlite.ValueOf", "(internal/reflectlite.Value).Type", "(internal/reflectlite.Value).IsNil", "internal/reflectlite.TypeOf", "(internal/reflectlite.Value).Elem", "(internal/reflectlite.Value).Set"], unfollowed := true, recurses := true, named := ["errors.errorType"], apart := false, laid := [("errors.errorType", laid_errors_errorType)], narrowed := true }
def StepKindsUptoSaid : Prop := stepKindsUptoRow.holds Tryz.pinned (OpenSpec.upto stepKindsSpec)

/-- 'swagelaw7.StepEnds', WHERE WHAT IT READS IS OF BULK AT MOST 1048576: true; the input reads as it did. -/
def stepEndsUptoRow : OpenClaim := { program := "ytjghibdlmmjobaagreatdoor", sum := "770e2f05a6e815d6d3360ab9e102c47c92ef3485df2c580f3056fc733e3a6cde", func := "swage/swagelaw7.StepEnds", spec := "stepEnds", inPlace := ["internal/reflectlite.ValueOf", "(internal/reflectlite.Value).Type", "(internal/reflectlite.Value).IsNil", "internal/reflectlite.TypeOf", "(internal/reflectlite.Value).Elem", "(internal/reflectlite.Value).Set"], unfollowed := true, recurses := true, named := ["errors.errorType"], apart := false, laid := [("errors.errorType", laid_errors_errorType)], narrowed := true }
def StepEndsUptoSaid : Prop := stepEndsUptoRow.holds Tryz.pinned (OpenSpec.upto stepEndsSpec)

/-- 'swagelaw20.Builds', WHERE WHAT IT READS IS OF BULK AT MOST 1048576: true; the input reads as it did. -/
def buildsUptoRow : OpenClaim := { program := "ytjghibdlmmjobaagreatdoor", sum := "770e2f05a6e815d6d3360ab9e102c47c92ef3485df2c580f3056fc733e3a6cde", func := "swage/swagelaw20.Builds", spec := "builds", inPlace := ["internal/reflectlite.ValueOf", "(internal/reflectlite.Value).Type", "(internal/reflectlite.Value).IsNil", "internal/reflectlite.TypeOf", "(internal/reflectlite.Value).Elem", "(internal/reflectlite.Value).Set"], unfollowed := true, recurses := true, named := ["errors.errorType"], apart := false, laid := [("errors.errorType", laid_errors_errorType)], narrowed := true }
def BuildsUptoSaid : Prop := buildsUptoRow.holds Tryz.pinned (OpenSpec.upto buildsSpec)

/-- 'swagelaw20.BuildPlain', WHERE WHAT IT READS IS OF BULK AT MOST 1048576: true; the input reads as it did. -/
def buildPlainUptoRow : OpenClaim := { program := "ytjghibdlmmjobaagreatdoor", sum := "770e2f05a6e815d6d3360ab9e102c47c92ef3485df2c580f3056fc733e3a6cde", func := "swage/swagelaw20.BuildPlain", spec := "buildPlain", inPlace := ["internal/reflectlite.ValueOf", "(internal/reflectlite.Value).Type", "(internal/reflectlite.Value).IsNil", "internal/reflectlite.TypeOf", "(internal/reflectlite.Value).Elem", "(internal/reflectlite.Value).Set"], unfollowed := true, recurses := true, named := ["errors.errorType"], apart := false, laid := [("errors.errorType", laid_errors_errorType)], narrowed := true }
def BuildPlainUptoSaid : Prop := buildPlainUptoRow.holds Tryz.pinned (OpenSpec.upto buildPlainSpec)

/-- 'swagelaw20.BuildForms', WHERE WHAT IT READS IS OF BULK AT MOST 1048576: true; the input reads as it did. -/
def buildFormsUptoRow : OpenClaim := { program := "ytjghibdlmmjobaagreatdoor", sum := "770e2f05a6e815d6d3360ab9e102c47c92ef3485df2c580f3056fc733e3a6cde", func := "swage/swagelaw20.BuildForms", spec := "buildForms", inPlace := ["internal/reflectlite.ValueOf", "(internal/reflectlite.Value).Type", "(internal/reflectlite.Value).IsNil", "internal/reflectlite.TypeOf", "(internal/reflectlite.Value).Elem", "(internal/reflectlite.Value).Set"], unfollowed := true, recurses := true, named := ["errors.errorType"], apart := false, laid := [("errors.errorType", laid_errors_errorType)], narrowed := true }
def BuildFormsUptoSaid : Prop := buildFormsUptoRow.holds Tryz.pinned (OpenSpec.upto buildFormsSpec)

/-- 'swagelaw20.BuildMay', WHERE WHAT IT READS IS OF BULK AT MOST 1048576: true; the input reads as it did. -/
def buildMayUptoRow : OpenClaim := { program := "ytjghibdlmmjobaagreatdoor", sum := "770e2f05a6e815d6d3360ab9e102c47c92ef3485df2c580f3056fc733e3a6cde", func := "swage/swagelaw20.BuildMay", spec := "buildMay", inPlace := ["internal/reflectlite.ValueOf", "(internal/reflectlite.Value).Type", "(internal/reflectlite.Value).IsNil", "internal/reflectlite.TypeOf", "(internal/reflectlite.Value).Elem", "(internal/reflectlite.Value).Set"], unfollowed := true, recurses := true, named := ["errors.errorType"], apart := false, laid := [("errors.errorType", laid_errors_errorType)], narrowed := true }
def BuildMayUptoSaid : Prop := buildMayUptoRow.holds Tryz.pinned (OpenSpec.upto buildMaySpec)

/-- 'swagelaw12.Execs', WHERE WHAT IT READS IS OF BULK AT MOST 1048576: true; the input reads as it did. -/
def execsUptoRow : OpenClaim := { program := "ytjghibdlmmjobaagreatdoor", sum := "770e2f05a6e815d6d3360ab9e102c47c92ef3485df2c580f3056fc733e3a6cde", func := "swage/swagelaw12.Execs", spec := "execs", inPlace := ["internal/reflectlite.ValueOf", "(internal/reflectlite.Value).Type", "(internal/reflectlite.Value).IsNil", "internal/reflectlite.TypeOf", "(internal/reflectlite.Value).Elem", "(internal/reflectlite.Value).Set"], unfollowed := true, recurses := true, named := ["errors.errorType"], apart := false, laid := [("errors.errorType", laid_errors_errorType)], narrowed := true }
def ExecsUptoSaid : Prop := execsUptoRow.holds Tryz.pinned (OpenSpec.upto execsSpec)

/-- 'swagelaw12.ExecCosts', WHERE WHAT IT READS IS OF BULK AT MOST 1048576: true; the input reads as it did. -/
def execCostsUptoRow : OpenClaim := { program := "ytjghibdlmmjobaagreatdoor", sum := "770e2f05a6e815d6d3360ab9e102c47c92ef3485df2c580f3056fc733e3a6cde", func := "swage/swagelaw12.ExecCosts", spec := "execCosts", inPlace := ["internal/reflectlite.ValueOf", "(internal/reflectlite.Value).Type", "(internal/reflectlite.Value).IsNil", "internal/reflectlite.TypeOf", "(internal/reflectlite.Value).Elem", "(internal/reflectlite.Value).Set"], unfollowed := true, recurses := true, named := ["errors.errorType"], apart := false, laid := [("errors.errorType", laid_errors_errorType)], narrowed := true }
def ExecCostsUptoSaid : Prop := execCostsUptoRow.holds Tryz.pinned (OpenSpec.upto execCostsSpec)

/-- 'swagelaw12.ExecKinds', WHERE WHAT IT READS IS OF BULK AT MOST 1048576: true; the input reads as it did. -/
def execKindsUptoRow : OpenClaim := { program := "ytjghibdlmmjobaagreatdoor", sum := "770e2f05a6e815d6d3360ab9e102c47c92ef3485df2c580f3056fc733e3a6cde", func := "swage/swagelaw12.ExecKinds", spec := "execKinds", inPlace := ["internal/reflectlite.ValueOf", "(internal/reflectlite.Value).Type", "(internal/reflectlite.Value).IsNil", "internal/reflectlite.TypeOf", "(internal/reflectlite.Value).Elem", "(internal/reflectlite.Value).Set"], unfollowed := true, recurses := true, named := ["errors.errorType"], apart := false, laid := [("errors.errorType", laid_errors_errorType)], narrowed := true }
def ExecKindsUptoSaid : Prop := execKindsUptoRow.holds Tryz.pinned (OpenSpec.upto execKindsSpec)

/-- 'swagelaw12.ExecLimits', WHERE WHAT IT READS IS OF BULK AT MOST 1048576: true; the input reads as it did. -/
def execLimitsUptoRow : OpenClaim := { program := "ytjghibdlmmjobaagreatdoor", sum := "770e2f05a6e815d6d3360ab9e102c47c92ef3485df2c580f3056fc733e3a6cde", func := "swage/swagelaw12.ExecLimits", spec := "execLimits", inPlace := ["internal/reflectlite.ValueOf", "(internal/reflectlite.Value).Type", "(internal/reflectlite.Value).IsNil", "internal/reflectlite.TypeOf", "(internal/reflectlite.Value).Elem", "(internal/reflectlite.Value).Set"], unfollowed := true, recurses := true, named := ["errors.errorType"], apart := false, laid := [("errors.errorType", laid_errors_errorType)], narrowed := true }
def ExecLimitsUptoSaid : Prop := execLimitsUptoRow.holds Tryz.pinned (OpenSpec.upto execLimitsSpec)

/-- 'swagelaw12.ExecWalks', WHERE WHAT IT READS IS OF BULK AT MOST 1048576: true; the input reads as it did. -/
def execWalksUptoRow : OpenClaim := { program := "ytjghibdlmmjobaagreatdoor", sum := "770e2f05a6e815d6d3360ab9e102c47c92ef3485df2c580f3056fc733e3a6cde", func := "swage/swagelaw12.ExecWalks", spec := "execWalks", inPlace := ["internal/reflectlite.ValueOf", "(internal/reflectlite.Value).Type", "(internal/reflectlite.Value).IsNil", "internal/reflectlite.TypeOf", "(internal/reflectlite.Value).Elem", "(internal/reflectlite.Value).Set"], unfollowed := true, recurses := true, named := ["errors.errorType"], apart := false, laid := [("errors.errorType", laid_errors_errorType)], narrowed := true }
def ExecWalksUptoSaid : Prop := execWalksUptoRow.holds Tryz.pinned (OpenSpec.upto execWalksSpec)

/-- 'swagelaw17.Deads', WHERE WHAT IT READS IS OF BULK AT MOST 1048576: true; the input reads as it did. -/
def deadsUptoRow : OpenClaim := { program := "ytjghibdlmmjobaagreatdoor", sum := "770e2f05a6e815d6d3360ab9e102c47c92ef3485df2c580f3056fc733e3a6cde", func := "swage/swagelaw17.Deads", spec := "deads", inPlace := ["internal/reflectlite.ValueOf", "(internal/reflectlite.Value).Type", "(internal/reflectlite.Value).IsNil", "internal/reflectlite.TypeOf", "(internal/reflectlite.Value).Elem", "(internal/reflectlite.Value).Set"], unfollowed := true, recurses := true, named := ["errors.errorType"], apart := false, laid := [("errors.errorType", laid_errors_errorType)], narrowed := true }
def DeadsUptoSaid : Prop := deadsUptoRow.holds Tryz.pinned (OpenSpec.upto deadsSpec)

end Rows
end Go.Proofs.YtjghibdlmmjobaaGreatDoor
