/-
  NARROWER THAN 'FOR EVERY INPUT', by the rows' own cells (each row's printed sentence says how): VerifyMore: laid · ProfCounts: laid · ProfForms: laid · ProfFull: laid · EvalFuel: laid · EvalSums: laid · EvalCalls: laid · EvalRows: laid · EvalSteps: laid.
  DERIVED. THE GIVEN ROWS OF THIS SEAT. 9 by the template 'for every input the law returns true; each argument reads behind the call as it read before'; 0 by the template 'total and deterministic' (their statements: YtpfgklkdldkajaaDoorTotals.lean).
  GIVEN WITH THE SEED: the statements are not yours to turn. If you find one false, say at which input.
  Laid BY PROGRAM, IN A SANDBOX (cutbox-rows.mjs): the forced cells as the released guide's own fill.sh prints them over the translation 92375b955ef5bb42… (all of the seat's roots in one cut). By AI agents, Wed Nov 11 2026. No macro, syntax, notation, axiom, sorry.
-/
import Derived.Test.YtpfgklkdldkajaaDoorChecked
import GoSem.Claim
import GoSem.ClaimJoined
import GoSem.ClaimMapViews
import Derived.JoinedTies
import Derived.KernelRfl
namespace Go.Proofs.YtpfgklkdldkajaaDoor
/- THE CELL 'sum', in the pinned program and in every row, IS THE sha256 OF THE DUMP (.gsa) THAT YtpfgklkdldkajaaDoorProg.lean LOADS. Nothing in Lean hashes anything: it is a label: what it is worth is what the hold of that sum in a sandbox is worth. -/
noncomputable def Tryd.pinned : Pinned := { name := "ytpfgklkdldkajaadoor", sum := "92375b955ef5bb42a4840ff307bb7b28f3e5033e58b1c4b4ce1d77b9bc6e7bd6", checked := Tryd.checked }
namespace Rows
def none {H : Type} : Left H := { results := [], args := [] }

/- WHAT THE LISTED PACKAGE-LEVEL VARIABLES READ AS WHEN THE CALL BEGINS. Each datum BY PROGRAM (the guide's laid-datum.mjs) off the statement by which the dump's own 'gosem.cut.vars' lays the variable. In a bare row this is a premise. The card (YtpfgklkdldkajaaDoorCards.lean) ties it to the program's text. -/
def laid_errors_errorType {H : Type} : DataW H := .iface "internal/reflectlite.rtype" (.agg [.ptr (.lit (.string [101, 114, 114, 111, 114]))])

/-- 'swagelaw5.VerifyMore': WHATEVER THE INPUT: true; the input reads as it did. -/
def verifyMoreSpec : ChangeSpec := { name := "verifyMore", fn := fun _ => fun
  | [d1, d2] => { results := [.lit (.bool true)], args := [d1, d2] }
  | _ => none }
def verifyMoreRow : OpenClaim := { program := "ytpfgklkdldkajaadoor", sum := "92375b955ef5bb42a4840ff307bb7b28f3e5033e58b1c4b4ce1d77b9bc6e7bd6", func := "swage/swagelaw5.VerifyMore", spec := "verifyMore", inPlace := ["internal/reflectlite.ValueOf", "(internal/reflectlite.Value).Type", "(internal/reflectlite.Value).IsNil", "internal/reflectlite.TypeOf", "(internal/reflectlite.Value).Elem", "(internal/reflectlite.Value).Set"], unfollowed := true, recurses := true, named := ["errors.errorType"], apart := false, laid := [("errors.errorType", laid_errors_errorType)] }
def VerifyMoreSaid : Prop := verifyMoreRow.holds Tryd.pinned (OpenSpec.ofChange verifyMoreSpec)

/-- ITS FALSE NEIGHBOUR: 'it returns false'. Refute it at one input. -/
def verifyMoreWrong : ChangeSpec := { name := "verifyMore", fn := fun _ => fun
  | [d1, d2] => { results := [.lit (.bool false)], args := [d1, d2] }
  | _ => none }
def VerifyMoreWrongFalsely : Prop := verifyMoreRow.holds Tryd.pinned (OpenSpec.ofChange verifyMoreWrong)

/-- 'swagelaw9.ProfCounts': WHATEVER THE INPUT: true; the input reads as it did. -/
def profCountsSpec : ChangeSpec := { name := "profCounts", fn := fun _ => fun
  | [d1, d2, d3] => { results := [.lit (.bool true)], args := [d1, d2, d3] }
  | _ => none }
def profCountsRow : OpenClaim := { program := "ytpfgklkdldkajaadoor", sum := "92375b955ef5bb42a4840ff307bb7b28f3e5033e58b1c4b4ce1d77b9bc6e7bd6", func := "swage/swagelaw9.ProfCounts", spec := "profCounts", inPlace := ["internal/reflectlite.ValueOf", "(internal/reflectlite.Value).Type", "(internal/reflectlite.Value).IsNil", "internal/reflectlite.TypeOf", "(internal/reflectlite.Value).Elem", "(internal/reflectlite.Value).Set"], unfollowed := true, recurses := true, named := ["errors.errorType"], apart := false, laid := [("errors.errorType", laid_errors_errorType)] }
def ProfCountsSaid : Prop := profCountsRow.holds Tryd.pinned (OpenSpec.ofChange profCountsSpec)

/-- ITS FALSE NEIGHBOUR: 'it returns false'. Refute it at one input. -/
def profCountsWrong : ChangeSpec := { name := "profCounts", fn := fun _ => fun
  | [d1, d2, d3] => { results := [.lit (.bool false)], args := [d1, d2, d3] }
  | _ => none }
def ProfCountsWrongFalsely : Prop := profCountsRow.holds Tryd.pinned (OpenSpec.ofChange profCountsWrong)

/-- 'swagelaw9.ProfForms': WHATEVER THE INPUT: true; the input reads as it did. -/
def profFormsSpec : ChangeSpec := { name := "profForms", fn := fun _ => fun
  | [d1, d2] => { results := [.lit (.bool true)], args := [d1, d2] }
  | _ => none }
def profFormsRow : OpenClaim := { program := "ytpfgklkdldkajaadoor", sum := "92375b955ef5bb42a4840ff307bb7b28f3e5033e58b1c4b4ce1d77b9bc6e7bd6", func := "swage/swagelaw9.ProfForms", spec := "profForms", inPlace := ["internal/reflectlite.ValueOf", "(internal/reflectlite.Value).Type", "(internal/reflectlite.Value).IsNil", "internal/reflectlite.TypeOf", "(internal/reflectlite.Value).Elem", "(internal/reflectlite.Value).Set"], unfollowed := true, recurses := true, named := ["errors.errorType"], apart := false, laid := [("errors.errorType", laid_errors_errorType)] }
def ProfFormsSaid : Prop := profFormsRow.holds Tryd.pinned (OpenSpec.ofChange profFormsSpec)

/-- ITS FALSE NEIGHBOUR: 'it returns false'. Refute it at one input. -/
def profFormsWrong : ChangeSpec := { name := "profForms", fn := fun _ => fun
  | [d1, d2] => { results := [.lit (.bool false)], args := [d1, d2] }
  | _ => none }
def ProfFormsWrongFalsely : Prop := profFormsRow.holds Tryd.pinned (OpenSpec.ofChange profFormsWrong)

/-- 'swagelaw9.ProfFull': WHATEVER THE INPUT: true; the input reads as it did. -/
def profFullSpec : ChangeSpec := { name := "profFull", fn := fun _ => fun
  | [d1, d2] => { results := [.lit (.bool true)], args := [d1, d2] }
  | _ => none }
def profFullRow : OpenClaim := { program := "ytpfgklkdldkajaadoor", sum := "92375b955ef5bb42a4840ff307bb7b28f3e5033e58b1c4b4ce1d77b9bc6e7bd6", func := "swage/swagelaw9.ProfFull", spec := "profFull", inPlace := ["internal/reflectlite.ValueOf", "(internal/reflectlite.Value).Type", "(internal/reflectlite.Value).IsNil", "internal/reflectlite.TypeOf", "(internal/reflectlite.Value).Elem", "(internal/reflectlite.Value).Set"], unfollowed := true, recurses := true, named := ["errors.errorType"], apart := false, laid := [("errors.errorType", laid_errors_errorType)] }
def ProfFullSaid : Prop := profFullRow.holds Tryd.pinned (OpenSpec.ofChange profFullSpec)

/-- ITS FALSE NEIGHBOUR: 'it returns false'. Refute it at one input. -/
def profFullWrong : ChangeSpec := { name := "profFull", fn := fun _ => fun
  | [d1, d2] => { results := [.lit (.bool false)], args := [d1, d2] }
  | _ => none }
def ProfFullWrongFalsely : Prop := profFullRow.holds Tryd.pinned (OpenSpec.ofChange profFullWrong)

/-- 'swagelaw8.EvalFuel': WHATEVER THE INPUT: true; the input reads as it did. -/
def evalFuelSpec : ChangeSpec := { name := "evalFuel", fn := fun _ => fun
  | [d1, d2, d3, d4] => { results := [.lit (.bool true)], args := [d1, d2, d3, d4] }
  | _ => none }
def evalFuelRow : OpenClaim := { program := "ytpfgklkdldkajaadoor", sum := "92375b955ef5bb42a4840ff307bb7b28f3e5033e58b1c4b4ce1d77b9bc6e7bd6", func := "swage/swagelaw8.EvalFuel", spec := "evalFuel", inPlace := ["internal/reflectlite.ValueOf", "(internal/reflectlite.Value).Type", "(internal/reflectlite.Value).IsNil", "internal/reflectlite.TypeOf", "(internal/reflectlite.Value).Elem", "(internal/reflectlite.Value).Set"], unfollowed := true, recurses := true, named := ["errors.errorType"], apart := false, laid := [("errors.errorType", laid_errors_errorType)] }
def EvalFuelSaid : Prop := evalFuelRow.holds Tryd.pinned (OpenSpec.ofChange evalFuelSpec)

/-- ITS FALSE NEIGHBOUR: 'it returns false'. Refute it at one input. -/
def evalFuelWrong : ChangeSpec := { name := "evalFuel", fn := fun _ => fun
  | [d1, d2, d3, d4] => { results := [.lit (.bool false)], args := [d1, d2, d3, d4] }
  | _ => none }
def EvalFuelWrongFalsely : Prop := evalFuelRow.holds Tryd.pinned (OpenSpec.ofChange evalFuelWrong)

/-- 'swagelaw8.EvalSums': WHATEVER THE INPUT: true; the input reads as it did. -/
def evalSumsSpec : ChangeSpec := { name := "evalSums", fn := fun _ => fun
  | [d] => { results := [.lit (.bool true)], args := [d] }
  | _ => none }
def evalSumsRow : OpenClaim := { program := "ytpfgklkdldkajaadoor", sum := "92375b955ef5bb42a4840ff307bb7b28f3e5033e58b1c4b4ce1d77b9bc6e7bd6", func := "swage/swagelaw8.EvalSums", spec := "evalSums", inPlace := ["internal/reflectlite.ValueOf", "(internal/reflectlite.Value).Type", "(internal/reflectlite.Value).IsNil", "internal/reflectlite.TypeOf", "(internal/reflectlite.Value).Elem", "(internal/reflectlite.Value).Set"], unfollowed := true, recurses := true, named := ["errors.errorType"], apart := false, laid := [("errors.errorType", laid_errors_errorType)] }
def EvalSumsSaid : Prop := evalSumsRow.holds Tryd.pinned (OpenSpec.ofChange evalSumsSpec)

/-- ITS FALSE NEIGHBOUR: 'it returns false'. Refute it at one input. -/
def evalSumsWrong : ChangeSpec := { name := "evalSums", fn := fun _ => fun
  | [d] => { results := [.lit (.bool false)], args := [d] }
  | _ => none }
def EvalSumsWrongFalsely : Prop := evalSumsRow.holds Tryd.pinned (OpenSpec.ofChange evalSumsWrong)

/-- 'swagelaw8.EvalCalls': WHATEVER THE INPUT: true; the input reads as it did. -/
def evalCallsSpec : ChangeSpec := { name := "evalCalls", fn := fun _ => fun
  | [d] => { results := [.lit (.bool true)], args := [d] }
  | _ => none }
def evalCallsRow : OpenClaim := { program := "ytpfgklkdldkajaadoor", sum := "92375b955ef5bb42a4840ff307bb7b28f3e5033e58b1c4b4ce1d77b9bc6e7bd6", func := "swage/swagelaw8.EvalCalls", spec := "evalCalls", inPlace := ["internal/reflectlite.ValueOf", "(internal/reflectlite.Value).Type", "(internal/reflectlite.Value).IsNil", "internal/reflectlite.TypeOf", "(internal/reflectlite.Value).Elem", "(internal/reflectlite.Value).Set"], unfollowed := true, recurses := true, named := ["errors.errorType"], apart := false, laid := [("errors.errorType", laid_errors_errorType)] }
def EvalCallsSaid : Prop := evalCallsRow.holds Tryd.pinned (OpenSpec.ofChange evalCallsSpec)

/-- ITS FALSE NEIGHBOUR: 'it returns false'. Refute it at one input. -/
def evalCallsWrong : ChangeSpec := { name := "evalCalls", fn := fun _ => fun
  | [d] => { results := [.lit (.bool false)], args := [d] }
  | _ => none }
def EvalCallsWrongFalsely : Prop := evalCallsRow.holds Tryd.pinned (OpenSpec.ofChange evalCallsWrong)

/-- 'swagelaw8.EvalRows': WHATEVER THE INPUT: true; the input reads as it did. -/
def evalRowsSpec : ChangeSpec := { name := "evalRows", fn := fun _ => fun
  | [d1, d2] => { results := [.lit (.bool true)], args := [d1, d2] }
  | _ => none }
def evalRowsRow : OpenClaim := { program := "ytpfgklkdldkajaadoor", sum := "92375b955ef5bb42a4840ff307bb7b28f3e5033e58b1c4b4ce1d77b9bc6e7bd6", func := "swage/swagelaw8.EvalRows", spec := "evalRows", inPlace := ["internal/reflectlite.ValueOf", "(internal/reflectlite.Value).Type", "(internal/reflectlite.Value).IsNil", "internal/reflectlite.TypeOf", "(internal/reflectlite.Value).Elem", "(internal/reflectlite.Value).Set"], unfollowed := true, recurses := true, named := ["errors.errorType"], apart := false, laid := [("errors.errorType", laid_errors_errorType)] }
def EvalRowsSaid : Prop := evalRowsRow.holds Tryd.pinned (OpenSpec.ofChange evalRowsSpec)

/-- ITS FALSE NEIGHBOUR: 'it returns false'. Refute it at one input. -/
def evalRowsWrong : ChangeSpec := { name := "evalRows", fn := fun _ => fun
  | [d1, d2] => { results := [.lit (.bool false)], args := [d1, d2] }
  | _ => none }
def EvalRowsWrongFalsely : Prop := evalRowsRow.holds Tryd.pinned (OpenSpec.ofChange evalRowsWrong)

/-- 'swagelaw8.EvalSteps': WHATEVER THE INPUT: true; the input reads as it did. -/
def evalStepsSpec : ChangeSpec := { name := "evalSteps", fn := fun _ => fun
  | [d1, d2] => { results := [.lit (.bool true)], args := [d1, d2] }
  | _ => none }
def evalStepsRow : OpenClaim := { program := "ytpfgklkdldkajaadoor", sum := "92375b955ef5bb42a4840ff307bb7b28f3e5033e58b1c4b4ce1d77b9bc6e7bd6", func := "swage/swagelaw8.EvalSteps", spec := "evalSteps", inPlace := ["internal/reflectlite.ValueOf", "(internal/reflectlite.Value).Type", "(internal/reflectlite.Value).IsNil", "internal/reflectlite.TypeOf", "(internal/reflectlite.Value).Elem", "(internal/reflectlite.Value).Set"], unfollowed := true, recurses := true, named := ["errors.errorType"], apart := false, laid := [("errors.errorType", laid_errors_errorType)] }
def EvalStepsSaid : Prop := evalStepsRow.holds Tryd.pinned (OpenSpec.ofChange evalStepsSpec)

/-- ITS FALSE NEIGHBOUR: 'it returns false'. Refute it at one input. -/
def evalStepsWrong : ChangeSpec := { name := "evalSteps", fn := fun _ => fun
  | [d1, d2] => { results := [.lit (.bool false)], args := [d1, d2] }
  | _ => none }
def EvalStepsWrongFalsely : Prop := evalStepsRow.holds Tryd.pinned (OpenSpec.ofChange evalStepsWrong)

/- THE SECOND FORM. 'bulk': how many values and letters a reading holds, each counted each time it is reached (what is shared counts as often as it is met; a slice's spare places count too). A statement '..UptoSaid' is the law's where the arguments, and the package variables that the reading takes, are together of bulk at most 1048576: NARROWER than '..Said'. Prove '..Said' where nothing that the law and all that it calls make is longer than what came in: it says more and counts as full. Else prove '..UptoSaid'. A law counts once. -/
mutual
def uptoBulk {H : Type} : DataW H → Nat
  | .lit (.string bytes) => bytes.length + 1
  | .lit _ => 1
  | .nil => 1
  | .ptr d => uptoBulk d + 1
  | .slice elems spare => uptoBulkAll elems + uptoBulkAll spare + 1
  | .agg parts => uptoBulkAll parts + 1
  | .iface _ d => uptoBulk d + 1
  | .map entries => uptoBulkEntries entries + 1
  | .held _ => 1
def uptoBulkAll {H : Type} : List (DataW H) → Nat
  | [] => 0
  | d :: r => uptoBulk d + uptoBulkAll r
def uptoBulkEntries {H : Type} : List (Lit × DataW H) → Nat
  | [] => 0
  | x :: r => uptoBulkEntry x + uptoBulkEntries r
def uptoBulkEntry {H : Type} : Lit × DataW H → Nat
  | (.string bytes, d) => bytes.length + uptoBulk d + 1
  | (_, d) => uptoBulk d + 1
 end
def uptoSmall : (H : Type) → List (DataW H) → Bool := fun _ ds => decide (uptoBulkAll ds ≤ 1048576)
def OpenSpec.upto (s : _root_.Go.ChangeSpec) : _root_.Go.OpenSpec := { _root_.Go.OpenSpec.ofChange s with cond := some uptoSmall }

/-- 'swagelaw5.VerifyMore', WHERE WHAT IT READS IS OF BULK AT MOST 1048576: true; the input reads as it did. -/
def verifyMoreUptoRow : OpenClaim := { program := "ytpfgklkdldkajaadoor", sum := "92375b955ef5bb42a4840ff307bb7b28f3e5033e58b1c4b4ce1d77b9bc6e7bd6", func := "swage/swagelaw5.VerifyMore", spec := "verifyMore", inPlace := ["internal/reflectlite.ValueOf", "(internal/reflectlite.Value).Type", "(internal/reflectlite.Value).IsNil", "internal/reflectlite.TypeOf", "(internal/reflectlite.Value).Elem", "(internal/reflectlite.Value).Set"], unfollowed := true, recurses := true, named := ["errors.errorType"], apart := false, laid := [("errors.errorType", laid_errors_errorType)], narrowed := true }
def VerifyMoreUptoSaid : Prop := verifyMoreUptoRow.holds Tryd.pinned (OpenSpec.upto verifyMoreSpec)

/-- 'swagelaw9.ProfCounts', WHERE WHAT IT READS IS OF BULK AT MOST 1048576: true; the input reads as it did. -/
def profCountsUptoRow : OpenClaim := { program := "ytpfgklkdldkajaadoor", sum := "92375b955ef5bb42a4840ff307bb7b28f3e5033e58b1c4b4ce1d77b9bc6e7bd6", func := "swage/swagelaw9.ProfCounts", spec := "profCounts", inPlace := ["internal/reflectlite.ValueOf", "(internal/reflectlite.Value).Type", "(internal/reflectlite.Value).IsNil", "internal/reflectlite.TypeOf", "(internal/reflectlite.Value).Elem", "(internal/reflectlite.Value).Set"], unfollowed := true, recurses := true, named := ["errors.errorType"], apart := false, laid := [("errors.errorType", laid_errors_errorType)], narrowed := true }
def ProfCountsUptoSaid : Prop := profCountsUptoRow.holds Tryd.pinned (OpenSpec.upto profCountsSpec)

/-- 'swagelaw9.ProfForms', WHERE WHAT IT READS IS OF BULK AT MOST 1048576: true; the input reads as it did. -/
def profFormsUptoRow : OpenClaim := { program := "ytpfgklkdldkajaadoor", sum := "92375b955ef5bb42a4840ff307bb7b28f3e5033e58b1c4b4ce1d77b9bc6e7bd6", func := "swage/swagelaw9.ProfForms", spec := "profForms", inPlace := ["internal/reflectlite.ValueOf", "(internal/reflectlite.Value).Type", "(internal/reflectlite.Value).IsNil", "internal/reflectlite.TypeOf", "(internal/reflectlite.Value).Elem", "(internal/reflectlite.Value).Set"], unfollowed := true, recurses := true, named := ["errors.errorType"], apart := false, laid := [("errors.errorType", laid_errors_errorType)], narrowed := true }
def ProfFormsUptoSaid : Prop := profFormsUptoRow.holds Tryd.pinned (OpenSpec.upto profFormsSpec)

/-- 'swagelaw9.ProfFull', WHERE WHAT IT READS IS OF BULK AT MOST 1048576: true; the input reads as it did. -/
def profFullUptoRow : OpenClaim := { program := "ytpfgklkdldkajaadoor", sum := "92375b955ef5bb42a4840ff307bb7b28f3e5033e58b1c4b4ce1d77b9bc6e7bd6", func := "swage/swagelaw9.ProfFull", spec := "profFull", inPlace := ["internal/reflectlite.ValueOf", "(internal/reflectlite.Value).Type", "(internal/reflectlite.Value).IsNil", "internal/reflectlite.TypeOf", "(internal/reflectlite.Value).Elem", "(internal/reflectlite.Value).Set"], unfollowed := true, recurses := true, named := ["errors.errorType"], apart := false, laid := [("errors.errorType", laid_errors_errorType)], narrowed := true }
def ProfFullUptoSaid : Prop := profFullUptoRow.holds Tryd.pinned (OpenSpec.upto profFullSpec)

/-- 'swagelaw8.EvalFuel', WHERE WHAT IT READS IS OF BULK AT MOST 1048576: true; the input reads as it did. -/
def evalFuelUptoRow : OpenClaim := { program := "ytpfgklkdldkajaadoor", sum := "92375b955ef5bb42a4840ff307bb7b28f3e5033e58b1c4b4ce1d77b9bc6e7bd6", func := "swage/swagelaw8.EvalFuel", spec := "evalFuel", inPlace := ["internal/reflectlite.ValueOf", "(internal/reflectlite.Value).Type", "(internal/reflectlite.Value).IsNil", "internal/reflectlite.TypeOf", "(internal/reflectlite.Value).Elem", "(internal/reflectlite.Value).Set"], unfollowed := true, recurses := true, named := ["errors.errorType"], apart := false, laid := [("errors.errorType", laid_errors_errorType)], narrowed := true }
def EvalFuelUptoSaid : Prop := evalFuelUptoRow.holds Tryd.pinned (OpenSpec.upto evalFuelSpec)

/-- 'swagelaw8.EvalSums', WHERE WHAT IT READS IS OF BULK AT MOST 1048576: true; the input reads as it did. -/
def evalSumsUptoRow : OpenClaim := { program := "ytpfgklkdldkajaadoor", sum := "92375b955ef5bb42a4840ff307bb7b28f3e5033e58b1c4b4ce1d77b9bc6e7bd6", func := "swage/swagelaw8.EvalSums", spec := "evalSums", inPlace := ["internal/reflectlite.ValueOf", "(internal/reflectlite.Value).Type", "(internal/reflectlite.Value).IsNil", "internal/reflectlite.TypeOf", "(internal/reflectlite.Value).Elem", "(internal/reflectlite.Value).Set"], unfollowed := true, recurses := true, named := ["errors.errorType"], apart := false, laid := [("errors.errorType", laid_errors_errorType)], narrowed := true }
def EvalSumsUptoSaid : Prop := evalSumsUptoRow.holds Tryd.pinned (OpenSpec.upto evalSumsSpec)

/-- 'swagelaw8.EvalCalls', WHERE WHAT IT READS IS OF BULK AT MOST 1048576: true; the input reads as it did. -/
def evalCallsUptoRow : OpenClaim := { program := "ytpfgklkdldkajaadoor", sum := "92375b955ef5bb42a4840ff307bb7b28f3e5033e58b1c4b4ce1d77b9bc6e7bd6", func := "swage/swagelaw8.EvalCalls", spec := "evalCalls", inPlace := ["internal/reflectlite.ValueOf", "(internal/reflectlite.Value).Type", "(internal/reflectlite.Value).IsNil", "internal/reflectlite.TypeOf", "(internal/reflectlite.Value).Elem", "(internal/reflectlite.Value).Set"], unfollowed := true, recurses := true, named := ["errors.errorType"], apart := false, laid := [("errors.errorType", laid_errors_errorType)], narrowed := true }
def EvalCallsUptoSaid : Prop := evalCallsUptoRow.holds Tryd.pinned (OpenSpec.upto evalCallsSpec)

/-- 'swagelaw8.EvalRows', WHERE WHAT IT READS IS OF BULK AT MOST 1048576: true; the input reads as it did. -/
def evalRowsUptoRow : OpenClaim := { program := "ytpfgklkdldkajaadoor", sum := "92375b955ef5bb42a4840ff307bb7b28f3e5033e58b1c4b4ce1d77b9bc6e7bd6", func := "swage/swagelaw8.EvalRows", spec := "evalRows", inPlace := ["internal/reflectlite.ValueOf", "(internal/reflectlite.Value).Type", "(internal/reflectlite.Value).IsNil", "internal/reflectlite.TypeOf", "(internal/reflectlite.Value).Elem", "(internal/reflectlite.Value).Set"], unfollowed := true, recurses := true, named := ["errors.errorType"], apart := false, laid := [("errors.errorType", laid_errors_errorType)], narrowed := true }
def EvalRowsUptoSaid : Prop := evalRowsUptoRow.holds Tryd.pinned (OpenSpec.upto evalRowsSpec)

/-- 'swagelaw8.EvalSteps', WHERE WHAT IT READS IS OF BULK AT MOST 1048576: true; the input reads as it did. -/
def evalStepsUptoRow : OpenClaim := { program := "ytpfgklkdldkajaadoor", sum := "92375b955ef5bb42a4840ff307bb7b28f3e5033e58b1c4b4ce1d77b9bc6e7bd6", func := "swage/swagelaw8.EvalSteps", spec := "evalSteps", inPlace := ["internal/reflectlite.ValueOf", "(internal/reflectlite.Value).Type", "(internal/reflectlite.Value).IsNil", "internal/reflectlite.TypeOf", "(internal/reflectlite.Value).Elem", "(internal/reflectlite.Value).Set"], unfollowed := true, recurses := true, named := ["errors.errorType"], apart := false, laid := [("errors.errorType", laid_errors_errorType)], narrowed := true }
def EvalStepsUptoSaid : Prop := evalStepsUptoRow.holds Tryd.pinned (OpenSpec.upto evalStepsSpec)

end Rows
end Go.Proofs.YtpfgklkdldkajaaDoor
