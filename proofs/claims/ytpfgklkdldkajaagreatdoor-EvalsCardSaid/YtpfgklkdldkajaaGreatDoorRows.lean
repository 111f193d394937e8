/-
  NARROWER THAN 'FOR EVERY INPUT', by the rows' own cells (each row's printed sentence says how): Profs: laid · Steps: laid · StepKeeps: laid · StepKinds: laid · StepEnds: laid · Evals: laid · EvalUnreached: laid · EvalArgs: laid.
  DERIVED. THE GIVEN ROWS OF THIS SEAT. 8 by the template 'for every input the law returns true; each argument reads behind the call as it read before'; 0 by the template 'total and deterministic' (their statements: YtpfgklkdldkajaaGreatDoorTotals.lean).
  GIVEN WITH THE SEED: the statements are not yours to turn. If you find one false, say at which input.
  Laid BY PROGRAM, IN A SANDBOX (cutbox-rows.mjs): the forced cells as the released guide's own fill.sh prints them over the translation c48f4be0e0586eb0… (all of the seat's roots in one cut). By AI agents, Wed Nov 11 2026. No macro, syntax, notation, axiom, sorry.
-/
import Derived.Test.YtpfgklkdldkajaaGreatDoorChecked
import GoSem.Claim
import GoSem.ClaimJoined
import GoSem.ClaimMapViews
import Derived.JoinedTies
import Derived.KernelRfl
namespace Go.Proofs.YtpfgklkdldkajaaGreatDoor
/- THE CELL 'sum', in the pinned program and in every row, IS THE sha256 OF THE DUMP (.gsa) THAT YtpfgklkdldkajaaGreatDoorProg.lean LOADS. Nothing in Lean hashes anything: it is a label: what it is worth is what the hold of that sum in a sandbox is worth. -/
noncomputable def Tryz.pinned : Pinned := { name := "ytpfgklkdldkajaagreatdoor", sum := "c48f4be0e0586eb0276e03adc4392990ea440def0b21a0f974def48cdad96af4", checked := Tryz.checked }
namespace Rows
def none {H : Type} : Left H := { results := [], args := [] }

/- WHAT THE LISTED PACKAGE-LEVEL VARIABLES READ AS WHEN THE CALL BEGINS. Each datum BY PROGRAM (the guide's laid-datum.mjs) off the statement by which the dump's own 'gosem.cut.vars' lays the variable. In a bare row this is a premise. The card (YtpfgklkdldkajaaGreatDoorCards.lean) ties it to the program's text. -/
def laid_errors_errorType {H : Type} : DataW H := .iface "internal/reflectlite.rtype" (.agg [.ptr (.lit (.string [101, 114, 114, 111, 114]))])

/-- 'swagelaw9.Profs': WHATEVER THE INPUT: true; the input reads as it did. -/
def profsSpec : ChangeSpec := { name := "profs", fn := fun _ => fun
  | [d1, d2, d3, d4, d5, d6] => { results := [.lit (.bool true)], args := [d1, d2, d3, d4, d5, d6] }
  | _ => none }
def profsRow : OpenClaim := { program := "ytpfgklkdldkajaagreatdoor", sum := "c48f4be0e0586eb0276e03adc4392990ea440def0b21a0f974def48cdad96af4", func := "swage/swagelaw9.Profs", spec := "profs", inPlace := ["internal/reflectlite.ValueOf", "(internal/reflectlite.Value).Type", "(internal/reflectlite.Value).IsNil", "internal/reflectlite.TypeOf", "(internal/reflectlite.Value).Elem", "(internal/reflectlite.Value).Set"], unfollowed := true, recurses := true, named := ["errors.errorType"], apart := false, laid := [("errors.errorType", laid_errors_errorType)] }
def ProfsSaid : Prop := profsRow.holds Tryz.pinned (OpenSpec.ofChange profsSpec)

/-- ITS FALSE NEIGHBOUR: 'it returns false'. Refute it at one input. -/
def profsWrong : ChangeSpec := { name := "profs", fn := fun _ => fun
  | [d1, d2, d3, d4, d5, d6] => { results := [.lit (.bool false)], args := [d1, d2, d3, d4, d5, d6] }
  | _ => none }
def ProfsWrongFalsely : Prop := profsRow.holds Tryz.pinned (OpenSpec.ofChange profsWrong)

/-- 'swagelaw7.Steps': WHATEVER THE INPUT: true; the input reads as it did. -/
def stepsSpec : ChangeSpec := { name := "steps", fn := fun _ => fun
  | [d1, d2] => { results := [.lit (.bool true)], args := [d1, d2] }
  | _ => none }
def stepsRow : OpenClaim := { program := "ytpfgklkdldkajaagreatdoor", sum := "c48f4be0e0586eb0276e03adc4392990ea440def0b21a0f974def48cdad96af4", func := "swage/swagelaw7.Steps", spec := "steps", inPlace := ["internal/reflectlite.ValueOf", "(internal/reflectlite.Value).Type", "(internal/reflectlite.Value).IsNil", "internal/reflectlite.TypeOf", "(internal/reflectlite.Value).Elem", "(internal/reflectlite.Value).Set"], unfollowed := true, recurses := true, named := ["errors.errorType"], apart := false, laid := [("errors.errorType", laid_errors_errorType)] }
def StepsSaid : Prop := stepsRow.holds Tryz.pinned (OpenSpec.ofChange stepsSpec)

/-- ITS FALSE NEIGHBOUR: 'it returns false'. Refute it at one input. -/
def stepsWrong : ChangeSpec := { name := "steps", fn := fun _ => fun
  | [d1, d2] => { results := [.lit (.bool false)], args := [d1, d2] }
  | _ => none }
def StepsWrongFalsely : Prop := stepsRow.holds Tryz.pinned (OpenSpec.ofChange stepsWrong)

/-- 'swagelaw7.StepKeeps': WHATEVER THE INPUT: true; the input reads as it did. -/
def stepKeepsSpec : ChangeSpec := { name := "stepKeeps", fn := fun _ => fun
  | [d1, d2] => { results := [.lit (.bool true)], args := [d1, d2] }
  | _ => none }
def stepKeepsRow : OpenClaim := { program := "ytpfgklkdldkajaagreatdoor", sum := "c48f4be0e0586eb0276e03adc4392990ea440def0b21a0f974def48cdad96af4", func := "swage/swagelaw7.StepKeeps", spec := "stepKeeps", inPlace := ["internal/reflectlite.ValueOf", "(internal/reflectlite.Value).Type", "(internal/reflectlite.Value).IsNil", "internal/reflectlite.TypeOf", "(internal/reflectlite.Value).Elem", "(internal/reflectlite.Value).Set"], unfollowed := true, recurses := true, named := ["errors.errorType"], apart := false, laid := [("errors.errorType", laid_errors_errorType)] }
def StepKeepsSaid : Prop := stepKeepsRow.holds Tryz.pinned (OpenSpec.ofChange stepKeepsSpec)

/-- ITS FALSE NEIGHBOUR: 'it returns false'. Refute it at one input. -/
def stepKeepsWrong : ChangeSpec := { name := "stepKeeps", fn := fun _ => fun
  | [d1, d2] => { results := [.lit (.bool false)], args := [d1, d2] }
  | _ => none }
def StepKeepsWrongFalsely : Prop := stepKeepsRow.holds Tryz.pinned (OpenSpec.ofChange stepKeepsWrong)

/-- 'swagelaw7.StepKinds': WHATEVER THE INPUT: true; the input reads as it did. -/
def stepKindsSpec : ChangeSpec := { name := "stepKinds", fn := fun _ => fun
  | [d1, d2, d3] => { results := [.lit (.bool true)], args := [d1, d2, d3] }
  | _ => none }
def stepKindsRow : OpenClaim := { program := "ytpfgklkdldkajaagreatdoor", sum := "c48f4be0e0586eb0276e03adc4392990ea440def0b21a0f974def48cdad96af4", func := "swage/swagelaw7.StepKinds", spec := "stepKinds", inPlace := ["internal/reflectlite.ValueOf", "(internal/reflectlite.Value).Type", "(internal/reflectlite.Value).IsNil", "internal/reflectlite.TypeOf", "(internal/reflectlite.Value).Elem", "(internal/reflectlite.Value).Set"], unfollowed := true, recurses := true, named := ["errors.errorType"], apart := false, laid := [("errors.errorType", laid_errors_errorType)] }
def StepKindsSaid : Prop := stepKindsRow.holds Tryz.pinned (OpenSpec.ofChange stepKindsSpec)

/-- ITS FALSE NEIGHBOUR: 'it returns false'. Refute it at one input. -/
def stepKindsWrong : ChangeSpec := { name := "stepKinds", fn := fun _ => fun
  | [d1, d2, d3] => { results := [.lit (.bool false)], args := [d1, d2, d3] }
  | _ => none }
def StepKindsWrongFalsely : Prop := stepKindsRow.holds Tryz.pinned (OpenSpec.ofChange stepKindsWrong)

/-- 'swagelaw7.StepEnds': WHATEVER THE INPUT: true; the input reads as it did. -/
def stepEndsSpec : ChangeSpec := { name := "stepEnds", fn := fun _ => fun
  | [d1, d2] => { results := [.lit (.bool true)], args := [d1, d2] }
  | _ => none }
def stepEndsRow : OpenClaim := { program := "ytpfgklkdldkajaagreatdoor", sum := "c48f4be0e0586eb0276e03adc4392990ea440def0b21a0f974def48cdad96af4", func := "swage/swagelaw7.StepEnds", spec := "stepEnds", inPlace := ["internal/reflectlite.ValueOf", "(internal/reflectlite.Value).Type", "(internal/reflectlite.Value).IsNil", "internal/reflectlite.TypeOf", "(internal/reflectlite.Value).Elem", "(internal/reflectlite.Value).Set"], unfollowed := true, recurses := true, named := ["errors.errorType"], apart := false, laid := [("errors.errorType", laid_errors_errorType)] }
def StepEndsSaid : Prop := stepEndsRow.holds Tryz.pinned (OpenSpec.ofChange stepEndsSpec)

/-- ITS FALSE NEIGHBOUR: 'it returns false'. Refute it at one input. -/
def stepEndsWrong : ChangeSpec := { name := "stepEnds", fn := fun _ => fun
  | [d1, d2] => { results := [.lit (.bool false)], args := [d1, d2] }
  | _ => none }
def StepEndsWrongFalsely : Prop := stepEndsRow.holds Tryz.pinned (OpenSpec.ofChange stepEndsWrong)

/-- 'swagelaw8.Evals': WHATEVER THE INPUT: true; the input reads as it did. -/
def evalsSpec : ChangeSpec := { name := "evals", fn := fun _ => fun
  | [d1, d2, d3, d4] => { results := [.lit (.bool true)], args := [d1, d2, d3, d4] }
  | _ => none }
def evalsRow : OpenClaim := { program := "ytpfgklkdldkajaagreatdoor", sum := "c48f4be0e0586eb0276e03adc4392990ea440def0b21a0f974def48cdad96af4", func := "swage/swagelaw8.Evals", spec := "evals", inPlace := ["internal/reflectlite.ValueOf", "(internal/reflectlite.Value).Type", "(internal/reflectlite.Value).IsNil", "internal/reflectlite.TypeOf", "(internal/reflectlite.Value).Elem", "(internal/reflectlite.Value).Set"], unfollowed := true, recurses := true, named := ["errors.errorType"], apart := false, laid := [("errors.errorType", laid_errors_errorType)] }
def EvalsSaid : Prop := evalsRow.holds Tryz.pinned (OpenSpec.ofChange evalsSpec)

/-- ITS FALSE NEIGHBOUR: 'it returns false'. Refute it at one input. -/
def evalsWrong : ChangeSpec := { name := "evals", fn := fun _ => fun
  | [d1, d2, d3, d4] => { results := [.lit (.bool false)], args := [d1, d2, d3, d4] }
  | _ => none }
def EvalsWrongFalsely : Prop := evalsRow.holds Tryz.pinned (OpenSpec.ofChange evalsWrong)

/-- 'swagelaw8.EvalUnreached': WHATEVER THE INPUT: true; the input reads as it did. -/
def evalUnreachedSpec : ChangeSpec := { name := "evalUnreached", fn := fun _ => fun
  | [d1, d2, d3, d4] => { results := [.lit (.bool true)], args := [d1, d2, d3, d4] }
  | _ => none }
def evalUnreachedRow : OpenClaim := { program := "ytpfgklkdldkajaagreatdoor", sum := "c48f4be0e0586eb0276e03adc4392990ea440def0b21a0f974def48cdad96af4", func := "swage/swagelaw8.EvalUnreached", spec := "evalUnreached", inPlace := ["internal/reflectlite.ValueOf", "(internal/reflectlite.Value).Type", "(internal/reflectlite.Value).IsNil", "internal/reflectlite.TypeOf", "(internal/reflectlite.Value).Elem", "(internal/reflectlite.Value).Set"], unfollowed := true, recurses := true, named := ["errors.errorType"], apart := false, laid := [("errors.errorType", laid_errors_errorType)] }
def EvalUnreachedSaid : Prop := evalUnreachedRow.holds Tryz.pinned (OpenSpec.ofChange evalUnreachedSpec)

/-- ITS FALSE NEIGHBOUR: 'it returns false'. Refute it at one input. -/
def evalUnreachedWrong : ChangeSpec := { name := "evalUnreached", fn := fun _ => fun
  | [d1, d2, d3, d4] => { results := [.lit (.bool false)], args := [d1, d2, d3, d4] }
  | _ => none }
def EvalUnreachedWrongFalsely : Prop := evalUnreachedRow.holds Tryz.pinned (OpenSpec.ofChange evalUnreachedWrong)

/-- 'swagelaw8.EvalArgs': WHATEVER THE INPUT: true; the input reads as it did. -/
def evalArgsSpec : ChangeSpec := { name := "evalArgs", fn := fun _ => fun
  | [d1, d2, d3, d4] => { results := [.lit (.bool true)], args := [d1, d2, d3, d4] }
  | _ => none }
def evalArgsRow : OpenClaim := { program := "ytpfgklkdldkajaagreatdoor", sum := "c48f4be0e0586eb0276e03adc4392990ea440def0b21a0f974def48cdad96af4", func := "swage/swagelaw8.EvalArgs", spec := "evalArgs", inPlace := ["internal/reflectlite.ValueOf", "(internal/reflectlite.Value).Type", "(internal/reflectlite.Value).IsNil", "internal/reflectlite.TypeOf", "(internal/reflectlite.Value).Elem", "(internal/reflectlite.Value).Set"], unfollowed := true, recurses := true, named := ["errors.errorType"], apart := false, laid := [("errors.errorType", laid_errors_errorType)] }
def EvalArgsSaid : Prop := evalArgsRow.holds Tryz.pinned (OpenSpec.ofChange evalArgsSpec)

/-- ITS FALSE NEIGHBOUR: 'it returns false'. Refute it at one input. -/
def evalArgsWrong : ChangeSpec := { name := "evalArgs", fn := fun _ => fun
  | [d1, d2, d3, d4] => { results := [.lit (.bool false)], args := [d1, d2, d3, d4] }
  | _ => none }
def EvalArgsWrongFalsely : Prop := evalArgsRow.holds Tryz.pinned (OpenSpec.ofChange evalArgsWrong)

/- THE SECOND FORM. 'bulk': how many values and letters a reading holds, each counted each time it is reached (what is shared counts as often as it is met; a slice's spare places count too). A statement '..UptoSaid' is the law's where the arguments, and the package variables that the reading takes, are together of bulk at most 1048576: NARROWER than '..Said'. Prove '..Said' where nothing that the law and all that it calls make is longer than what came in: it says more and counts as full. Else prove '..UptoSaid'. A law counts once. -/
mutual
def uptoBulk {H : Type} : DataW H → Nat
  | .lit (.string bytes) => bytes.length + 1
  | .lit _ => 1
  | .nil => 1
  | .ptr d => uptoBulk d + 1
  | .slice elems spare => uptoBulkAll elems + uptoBulkAll spare + 1
  | .agg parts => uptoBulkAll parts + 1
  | .iface _ d => uptoBulk d + 1
  | .map entries => uptoBulkEntries entries + 1
  | .held _ => 1
def uptoBulkAll {H : Type} : List (DataW H) → Nat
  | [] => 0
  | d :: r => uptoBulk d + uptoBulkAll r
def uptoBulkEntries {H : Type} : List (Lit × DataW H) → Nat
  | [] => 0
  | x :: r => uptoBulkEntry x + uptoBulkEntries r
def uptoBulkEntry {H : Type} : Lit × DataW H → Nat
  | (.string bytes, d) => bytes.length + uptoBulk d + 1
  | (_, d) => uptoBulk d + 1
 end
def uptoSmall : (H : Type) → List (DataW H) → Bool := fun _ ds => decide (uptoBulkAll ds ≤ 1048576)
def OpenSpec.upto (s : _root_.Go.ChangeSpec) : _root_.Go.OpenSpec := { _root_.Go.OpenSpec.ofChange s with cond := some uptoSmall }

/-- 'swagelaw9.Profs', WHERE WHAT IT READS IS OF BULK AT MOST 1048576: true; the input reads as it did. -/
def profsUptoRow : OpenClaim := { program := "ytpfgklkdldkajaagreatdoor", sum := "c48f4be0e0586eb0276e03adc4392990ea440def0b21a0f974def48cdad96af4", func := "swage/swagelaw9.Profs", spec := "profs", inPlace := ["internal/reflectlite.ValueOf", "(internal/reflectlite.Value).Type", "(internal/reflectlite.Value).IsNil", "internal/reflectlite.TypeOf", "(internal/reflectlite.Value).Elem", "(internal/reflectlite.Value).Set"], unfollowed := true, recurses := true, named := ["errors.errorType"], apart := false, laid := [("errors.errorType", laid_errors_errorType)], narrowed := true }
def ProfsUptoSaid : Prop := profsUptoRow.holds Tryz.pinned (OpenSpec.upto profsSpec)

/-- 'swagelaw7.Steps', WHERE WHAT IT READS IS OF BULK AT MOST 1048576: true; the input reads as it did. -/
def stepsUptoRow : OpenClaim := { program := "ytpfgklkdldkajaagreatdoor", sum := "c48f4be0e0586eb0276e03adc4392990ea440def0b21a0f974def48cdad96af4", func := "swage/swagelaw7.Steps", spec := "steps", inPlace := ["internal/reflectlite.ValueOf", "(internal/reflectlite.Value).Type", "(internal/reflectlite.Value).IsNil", "internal/reflectlite.TypeOf", "(internal/reflectlite.Value).Elem", "(internal/reflectlite.Value).Set"], unfollowed := true, recurses := true, named := ["errors.errorType"], apart := false, laid := [("errors.errorType", laid_errors_errorType)], narrowed := true }
def StepsUptoSaid : Prop := stepsUptoRow.holds Tryz.pinned (OpenSpec.upto stepsSpec)

/-- 'swagelaw7.StepKeeps', WHERE WHAT IT READS IS OF BULK AT MOST 1048576: true; the input reads as it did. -/
def stepKeepsUptoRow : OpenClaim := { program := "ytpfgklkdldkajaagreatdoor", sum := "c48f4be0e0586eb0276e03adc4392990ea440def0b21a0f974def48cdad96af4", func := "swage/swagelaw7.StepKeeps", spec := "stepKeeps", inPlace := ["internal/reflectlite.ValueOf", "(internal/reflectlite.Value).Type", "(internal/reflectlite.Value).IsNil", "internal/reflectlite.TypeOf", "(internal/reflectlite.Value).Elem", "(internal/reflectlite.Value).Set"], unfollowed := true, recurses := true, named := ["errors.errorType"], apart := false, laid := [("errors.errorType", laid_errors_errorType)], narrowed := true }
def StepKeepsUptoSaid : Prop := stepKeepsUptoRow.holds Tryz.pinned (OpenSpec.upto stepKeepsSpec)

/-- 'swagelaw7.StepKinds', WHERE WHAT IT READS IS OF BULK AT MOST 1048576: true; the input reads as it did. -/
def stepKindsUptoRow : OpenClaim := { program := "ytpfgklkdldkajaagreatdoor", sum := "c48f4be0e0586eb0276e03adc4392990ea440def0b21a0f974def48cdad96af4", func := "swage/swagelaw7.StepKinds", spec := "stepKinds", inPlace := ["internal/reflectlite.ValueOf", "(internal/reflectlite.Value).Type", "(internal/reflectlite.Value).IsNil", "internal/reflectlite.TypeOf", "(internal/reflectlite.Value).Elem", "(internal/reflectlite.Value).Set"], unfollowed := true, recurses := true, named := ["errors.errorType"], apart := false, laid := [("errors.errorType", laid_errors_errorType)], narrowed := true }
def StepKindsUptoSaid : Prop := stepKindsUptoRow.holds Tryz.pinned (OpenSpec.upto stepKindsSpec)

/-- 'swagelaw7.StepEnds', WHERE WHAT IT READS IS OF BULK AT MOST 1048576: true; the input reads as it did. -/
def stepEndsUptoRow : OpenClaim := { program := "ytpfgklkdldkajaagreatdoor", sum := "c48f4be0e0586eb0276e03adc4392990ea440def0b21a0f974def48cdad96af4", func := "swage/swagelaw7.StepEnds", spec := "stepEnds", inPlace := ["internal/reflectlite.ValueOf", "(internal/reflectlite.Value).Type", "(internal/reflectlite.Value).IsNil", "internal/reflectlite.TypeOf", "(internal/reflectlite.Value).Elem", "(internal/reflectlite.Value).Set"], unfollowed := true, recurses := true, named := ["errors.errorType"], apart := false, laid := [("errors.errorType", laid_errors_errorType)], narrowed := true }
def StepEndsUptoSaid : Prop := stepEndsUptoRow.holds Tryz.pinned (OpenSpec.upto stepEndsSpec)

/-- 'swagelaw8.Evals', WHERE WHAT IT READS IS OF BULK AT MOST 1048576: true; the input reads as it did. -/
def evalsUptoRow : OpenClaim := { program := "ytpfgklkdldkajaagreatdoor", sum := "c48f4be0e0586eb0276e03adc4392990ea440def0b21a0f974def48cdad96af4", func := "swage/swagelaw8.Evals", spec := "evals", inPlace := ["internal/reflectlite.ValueOf", "(internal/reflectlite.Value).Type", "(internal/reflectlite.Value).IsNil", "internal/reflectlite.TypeOf", "(internal/reflectlite.Value).Elem", "(internal/reflectlite.Value).Set"], unfollowed := true, recurses := true, named := ["errors.errorType"], apart := false, laid := [("errors.errorType", laid_errors_errorType)], narrowed := true }
def EvalsUptoSaid : Prop := evalsUptoRow.holds Tryz.pinned (OpenSpec.upto evalsSpec)

/-- 'swagelaw8.EvalUnreached', WHERE WHAT IT READS IS OF BULK AT MOST 1048576: true; the input reads as it did. -/
def evalUnreachedUptoRow : OpenClaim := { program := "ytpfgklkdldkajaagreatdoor", sum := "c48f4be0e0586eb0276e03adc4392990ea440def0b21a0f974def48cdad96af4", func := "swage/swagelaw8.EvalUnreached", spec := "evalUnreached", inPlace := ["internal/reflectlite.ValueOf", "(internal/reflectlite.Value).Type", "(internal/reflectlite.Value).IsNil", "internal/reflectlite.TypeOf", "(internal/reflectlite.Value).Elem", "(internal/reflectlite.Value).Set"], unfollowed := true, recurses := true, named := ["errors.errorType"], apart := false, laid := [("errors.errorType", laid_errors_errorType)], narrowed := true }
def EvalUnreachedUptoSaid : Prop := evalUnreachedUptoRow.holds Tryz.pinned (OpenSpec.upto evalUnreachedSpec)

/-- 'swagelaw8.EvalArgs', WHERE WHAT IT READS IS OF BULK AT MOST 1048576: true; the input reads as it did. -/
def evalArgsUptoRow : OpenClaim := { program := "ytpfgklkdldkajaagreatdoor", sum := "c48f4be0e0586eb0276e03adc4392990ea440def0b21a0f974def48cdad96af4", func := "swage/swagelaw8.EvalArgs", spec := "evalArgs", inPlace := ["internal/reflectlite.ValueOf", "(internal/reflectlite.Value).Type", "(internal/reflectlite.Value).IsNil", "internal/reflectlite.TypeOf", "(internal/reflectlite.Value).Elem", "(internal/reflectlite.Value).Set"], unfollowed := true, recurses := true, named := ["errors.errorType"], apart := false, laid := [("errors.errorType", laid_errors_errorType)], narrowed := true }
def EvalArgsUptoSaid : Prop := evalArgsUptoRow.holds Tryz.pinned (OpenSpec.upto evalArgsSpec)

end Rows
end Go.Proofs.YtpfgklkdldkajaaGreatDoor
