/-
  NARROWER THAN 'FOR EVERY INPUT', by the rows' own cells (each row's printed sentence says how): Verifies: laid · VerifyFlows: laid · VerifyForms: laid · VerifyHeights: laid · VerifyMore: laid · FrameStarts: laid · FrameForms: laid · FrameOver: laid · FrameDeep: laid.
  DERIVED. THE GIVEN ROWS OF THIS SEAT. 9 by the template 'for every input the law returns true; each argument reads behind the call as it read before'; 0 by the template 'total and deterministic' (their statements: YtdjlaglilokjeaaDoorTotals.lean).
  GIVEN WITH THE SEED: the statements are not yours to turn. If you find one false, say at which input.
  Laid BY PROGRAM, IN A SANDBOX (cutbox-rows.mjs): the forced cells as the released guide's own fill.sh prints them over the translation 3b977d2b3e928190… (all of the seat's roots in one cut). By AI agents, Wed Nov 11 2026. No macro, syntax, notation, axiom, sorry.
-/
import Derived.Test.YtdjlaglilokjeaaDoorChecked
import GoSem.Claim
import GoSem.ClaimJoined
import GoSem.ClaimMapViews
import Derived.JoinedTies
import Derived.KernelRfl
namespace Go.Proofs.YtdjlaglilokjeaaDoor
/- THE CELL 'sum', in the pinned program and in every row, IS THE sha256 OF THE DUMP (.gsa) THAT YtdjlaglilokjeaaDoorProg.lean LOADS. Nothing in Lean hashes anything: it is a label: what it is worth is what the hold of that sum in a sandbox is worth. -/
noncomputable def Tryd.pinned : Pinned := { name := "ytdjlaglilokjeaadoor", sum := "3b977d2b3e928190d2be1e4bfbaaff497c65484afc93fa7e5d329a74cb392cd5", checked := Tryd.checked }
namespace Rows
def none {H : Type} : Left H := { results := [], args := [] }

/- WHAT THE LISTED PACKAGE-LEVEL VARIABLES READ AS WHEN THE CALL BEGINS. Each datum BY PROGRAM (the guide's laid-datum.mjs) off the statement by which the dump's own 'gosem.cut.vars' lays the variable. In a bare row this is a premise. The card (YtdjlaglilokjeaaDoorCards.lean) ties it to the program's text. -/
def laid_errors_errorType {H : Type} : DataW H := .iface "internal/reflectlite.rtype" (.agg [.ptr (.lit (.string [101, 114, 114, 111, 114]))])

/-- 'swagelaw5.Verifies': WHATEVER THE INPUT: true; the input reads as it did. -/
def verifiesSpec : ChangeSpec := { name := "verifies", fn := fun _ => fun
  | [d1, d2] => { results := [.lit (.bool true)], args := [d1, d2] }
  | _ => none }
def verifiesRow : OpenClaim := { program := "ytdjlaglilokjeaadoor", sum := "3b977d2b3e928190d2be1e4bfbaaff497c65484afc93fa7e5d329a74cb392cd5", func := "swage/swagelaw5.Verifies", spec := "verifies", inPlace := ["internal/reflectlite.ValueOf", "(internal/reflectlite.Value).Type", "(internal/reflectlite.Value).IsNil", "internal/reflectlite.TypeOf", "(internal/reflectlite.Value).Elem", "(internal/reflectlite.Value).Set"], unfollowed := true, recurses := true, named := ["errors.errorType"], apart := false, laid := [("errors.errorType", laid_errors_errorType)] }
def VerifiesSaid : Prop := verifiesRow.holds Tryd.pinned (OpenSpec.ofChange verifiesSpec)

/-- ITS FALSE NEIGHBOUR: 'it returns false'. Refute it at one input. -/
def verifiesWrong : ChangeSpec := { name := "verifies", fn := fun _ => fun
  | [d1, d2] => { results := [.lit (.bool false)], args := [d1, d2] }
  | _ => none }
def VerifiesWrongFalsely : Prop := verifiesRow.holds Tryd.pinned (OpenSpec.ofChange verifiesWrong)

/-- 'swagelaw5.VerifyFlows': WHATEVER THE INPUT: true; the input reads as it did. -/
def verifyFlowsSpec : ChangeSpec := { name := "verifyFlows", fn := fun _ => fun
  | [d] => { results := [.lit (.bool true)], args := [d] }
  | _ => none }
def verifyFlowsRow : OpenClaim := { program := "ytdjlaglilokjeaadoor", sum := "3b977d2b3e928190d2be1e4bfbaaff497c65484afc93fa7e5d329a74cb392cd5", func := "swage/swagelaw5.VerifyFlows", spec := "verifyFlows", inPlace := ["internal/reflectlite.ValueOf", "(internal/reflectlite.Value).Type", "(internal/reflectlite.Value).IsNil", "internal/reflectlite.TypeOf", "(internal/reflectlite.Value).Elem", "(internal/reflectlite.Value).Set"], unfollowed := true, recurses := true, named := ["errors.errorType"], apart := false, laid := [("errors.errorType", laid_errors_errorType)] }
def VerifyFlowsSaid : Prop := verifyFlowsRow.holds Tryd.pinned (OpenSpec.ofChange verifyFlowsSpec)

/-- ITS FALSE NEIGHBOUR: 'it returns false'. Refute it at one input. -/
def verifyFlowsWrong : ChangeSpec := { name := "verifyFlows", fn := fun _ => fun
  | [d] => { results := [.lit (.bool false)], args := [d] }
  | _ => none }
def VerifyFlowsWrongFalsely : Prop := verifyFlowsRow.holds Tryd.pinned (OpenSpec.ofChange verifyFlowsWrong)

/-- 'swagelaw5.VerifyForms': WHATEVER THE INPUT: true; the input reads as it did. -/
def verifyFormsSpec : ChangeSpec := { name := "verifyForms", fn := fun _ => fun
  | [d] => { results := [.lit (.bool true)], args := [d] }
  | _ => none }
def verifyFormsRow : OpenClaim := { program := "ytdjlaglilokjeaadoor", sum := "3b977d2b3e928190d2be1e4bfbaaff497c65484afc93fa7e5d329a74cb392cd5", func := "swage/swagelaw5.VerifyForms", spec := "verifyForms", inPlace := ["internal/reflectlite.ValueOf", "(internal/reflectlite.Value).Type", "(internal/reflectlite.Value).IsNil", "internal/reflectlite.TypeOf", "(internal/reflectlite.Value).Elem", "(internal/reflectlite.Value).Set"], unfollowed := true, recurses := true, named := ["errors.errorType"], apart := false, laid := [("errors.errorType", laid_errors_errorType)] }
def VerifyFormsSaid : Prop := verifyFormsRow.holds Tryd.pinned (OpenSpec.ofChange verifyFormsSpec)

/-- ITS FALSE NEIGHBOUR: 'it returns false'. Refute it at one input. -/
def verifyFormsWrong : ChangeSpec := { name := "verifyForms", fn := fun _ => fun
  | [d] => { results := [.lit (.bool false)], args := [d] }
  | _ => none }
def VerifyFormsWrongFalsely : Prop := verifyFormsRow.holds Tryd.pinned (OpenSpec.ofChange verifyFormsWrong)

/-- 'swagelaw5.VerifyHeights': WHATEVER THE INPUT: true; the input reads as it did. -/
def verifyHeightsSpec : ChangeSpec := { name := "verifyHeights", fn := fun _ => fun
  | [d] => { results := [.lit (.bool true)], args := [d] }
  | _ => none }
def verifyHeightsRow : OpenClaim := { program := "ytdjlaglilokjeaadoor", sum := "3b977d2b3e928190d2be1e4bfbaaff497c65484afc93fa7e5d329a74cb392cd5", func := "swage/swagelaw5.VerifyHeights", spec := "verifyHeights", inPlace := ["internal/reflectlite.ValueOf", "(internal/reflectlite.Value).Type", "(internal/reflectlite.Value).IsNil", "internal/reflectlite.TypeOf", "(internal/reflectlite.Value).Elem", "(internal/reflectlite.Value).Set"], unfollowed := true, recurses := true, named := ["errors.errorType"], apart := false, laid := [("errors.errorType", laid_errors_errorType)] }
def VerifyHeightsSaid : Prop := verifyHeightsRow.holds Tryd.pinned (OpenSpec.ofChange verifyHeightsSpec)

/-- ITS FALSE NEIGHBOUR: 'it returns false'. Refute it at one input. -/
def verifyHeightsWrong : ChangeSpec := { name := "verifyHeights", fn := fun _ => fun
  | [d] => { results := [.lit (.bool false)], args := [d] }
  | _ => none }
def VerifyHeightsWrongFalsely : Prop := verifyHeightsRow.holds Tryd.pinned (OpenSpec.ofChange verifyHeightsWrong)

/-- 'swagelaw5.VerifyMore': WHATEVER THE INPUT: true; the input reads as it did. -/
def verifyMoreSpec : ChangeSpec := { name := "verifyMore", fn := fun _ => fun
  | [d1, d2] => { results := [.lit (.bool true)], args := [d1, d2] }
  | _ => none }
def verifyMoreRow : OpenClaim := { program := "ytdjlaglilokjeaadoor", sum := "3b977d2b3e928190d2be1e4bfbaaff497c65484afc93fa7e5d329a74cb392cd5", func := "swage/swagelaw5.VerifyMore", spec := "verifyMore", inPlace := ["internal/reflectlite.ValueOf", "(internal/reflectlite.Value).Type", "(internal/reflectlite.Value).IsNil", "internal/reflectlite.TypeOf", "(internal/reflectlite.Value).Elem", "(internal/reflectlite.Value).Set"], unfollowed := true, recurses := true, named := ["errors.errorType"], apart := false, laid := [("errors.errorType", laid_errors_errorType)] }
def VerifyMoreSaid : Prop := verifyMoreRow.holds Tryd.pinned (OpenSpec.ofChange verifyMoreSpec)

/-- ITS FALSE NEIGHBOUR: 'it returns false'. Refute it at one input. -/
def verifyMoreWrong : ChangeSpec := { name := "verifyMore", fn := fun _ => fun
  | [d1, d2] => { results := [.lit (.bool false)], args := [d1, d2] }
  | _ => none }
def VerifyMoreWrongFalsely : Prop := verifyMoreRow.holds Tryd.pinned (OpenSpec.ofChange verifyMoreWrong)

/-- 'swagelaw6.FrameStarts': WHATEVER THE INPUT: true; the input reads as it did. -/
def frameStartsSpec : ChangeSpec := { name := "frameStarts", fn := fun _ => fun
  | [d1, d2, d3] => { results := [.lit (.bool true)], args := [d1, d2, d3] }
  | _ => none }
def frameStartsRow : OpenClaim := { program := "ytdjlaglilokjeaadoor", sum := "3b977d2b3e928190d2be1e4bfbaaff497c65484afc93fa7e5d329a74cb392cd5", func := "swage/swagelaw6.FrameStarts", spec := "frameStarts", inPlace := ["internal/reflectlite.ValueOf", "(internal/reflectlite.Value).Type", "(internal/reflectlite.Value).IsNil", "internal/reflectlite.TypeOf", "(internal/reflectlite.Value).Elem", "(internal/reflectlite.Value).Set"], unfollowed := true, recurses := true, named := ["errors.errorType"], apart := false, laid := [("errors.errorType", laid_errors_errorType)] }
def FrameStartsSaid : Prop := frameStartsRow.holds Tryd.pinned (OpenSpec.ofChange frameStartsSpec)

/-- ITS FALSE NEIGHBOUR: 'it returns false'. Refute it at one input. -/
def frameStartsWrong : ChangeSpec := { name := "frameStarts", fn := fun _ => fun
  | [d1, d2, d3] => { results := [.lit (.bool false)], args := [d1, d2, d3] }
  | _ => none }
def FrameStartsWrongFalsely : Prop := frameStartsRow.holds Tryd.pinned (OpenSpec.ofChange frameStartsWrong)

/-- 'swagelaw6.FrameForms': WHATEVER THE INPUT: true; the input reads as it did. -/
def frameFormsSpec : ChangeSpec := { name := "frameForms", fn := fun _ => fun
  | [d1, d2] => { results := [.lit (.bool true)], args := [d1, d2] }
  | _ => none }
def frameFormsRow : OpenClaim := { program := "ytdjlaglilokjeaadoor", sum := "3b977d2b3e928190d2be1e4bfbaaff497c65484afc93fa7e5d329a74cb392cd5", func := "swage/swagelaw6.FrameForms", spec := "frameForms", inPlace := ["internal/reflectlite.ValueOf", "(internal/reflectlite.Value).Type", "(internal/reflectlite.Value).IsNil", "internal/reflectlite.TypeOf", "(internal/reflectlite.Value).Elem", "(internal/reflectlite.Value).Set"], unfollowed := true, recurses := true, named := ["errors.errorType"], apart := false, laid := [("errors.errorType", laid_errors_errorType)] }
def FrameFormsSaid : Prop := frameFormsRow.holds Tryd.pinned (OpenSpec.ofChange frameFormsSpec)

/-- ITS FALSE NEIGHBOUR: 'it returns false'. Refute it at one input. -/
def frameFormsWrong : ChangeSpec := { name := "frameForms", fn := fun _ => fun
  | [d1, d2] => { results := [.lit (.bool false)], args := [d1, d2] }
  | _ => none }
def FrameFormsWrongFalsely : Prop := frameFormsRow.holds Tryd.pinned (OpenSpec.ofChange frameFormsWrong)

/-- 'swagelaw6.FrameOver': WHATEVER THE INPUT: true; the input reads as it did. -/
def frameOverSpec : ChangeSpec := { name := "frameOver", fn := fun _ => fun
  | [d1, d2, d3] => { results := [.lit (.bool true)], args := [d1, d2, d3] }
  | _ => none }
def frameOverRow : OpenClaim := { program := "ytdjlaglilokjeaadoor", sum := "3b977d2b3e928190d2be1e4bfbaaff497c65484afc93fa7e5d329a74cb392cd5", func := "swage/swagelaw6.FrameOver", spec := "frameOver", inPlace := ["internal/reflectlite.ValueOf", "(internal/reflectlite.Value).Type", "(internal/reflectlite.Value).IsNil", "internal/reflectlite.TypeOf", "(internal/reflectlite.Value).Elem", "(internal/reflectlite.Value).Set"], unfollowed := true, recurses := true, named := ["errors.errorType"], apart := false, laid := [("errors.errorType", laid_errors_errorType)] }
def FrameOverSaid : Prop := frameOverRow.holds Tryd.pinned (OpenSpec.ofChange frameOverSpec)

/-- ITS FALSE NEIGHBOUR: 'it returns false'. Refute it at one input. -/
def frameOverWrong : ChangeSpec := { name := "frameOver", fn := fun _ => fun
  | [d1, d2, d3] => { results := [.lit (.bool false)], args := [d1, d2, d3] }
  | _ => none }
def FrameOverWrongFalsely : Prop := frameOverRow.holds Tryd.pinned (OpenSpec.ofChange frameOverWrong)

/-- 'swagelaw6.FrameDeep': WHATEVER THE INPUT: true; the input reads as it did. -/
def frameDeepSpec : ChangeSpec := { name := "frameDeep", fn := fun _ => fun
  | [d1, d2] => { results := [.lit (.bool true)], args := [d1, d2] }
  | _ => none }
def frameDeepRow : OpenClaim := { program := "ytdjlaglilokjeaadoor", sum := "3b977d2b3e928190d2be1e4bfbaaff497c65484afc93fa7e5d329a74cb392cd5", func := "swage/swagelaw6.FrameDeep", spec := "frameDeep", inPlace := ["internal/reflectlite.ValueOf", "(internal/reflectlite.Value).Type", "(internal/reflectlite.Value).IsNil", "internal/reflectlite.TypeOf", "(internal/reflectlite.Value).Elem", "(internal/reflectlite.Value).Set"], unfollowed := true, recurses := true, named := ["errors.errorType"], apart := false, laid := [("errors.errorType", laid_errors_errorType)] }
def FrameDeepSaid : Prop := frameDeepRow.holds Tryd.pinned (OpenSpec.ofChange frameDeepSpec)

/-- ITS FALSE NEIGHBOUR: 'it returns false'. Refute it at one input. -/
def frameDeepWrong : ChangeSpec := { name := "frameDeep", fn := fun _ => fun
  | [d1, d2] => { results := [.lit (.bool false)], args := [d1, d2] }
  | _ => none }
def FrameDeepWrongFalsely : Prop := frameDeepRow.holds Tryd.pinned (OpenSpec.ofChange frameDeepWrong)

/- THE SECOND FORM. 'bulk': how many values and letters a reading holds, each counted each time it is reached (what is shared counts as often as it is met; a slice's spare places count too). A statement '..UptoSaid' is the law's where the arguments, and the package variables that the reading takes, are together of bulk at most 1048576: NARROWER than '..Said'. Prove '..Said' where nothing that the law and all that it calls make is longer than what came in: it says more and counts as full. Else prove '..UptoSaid'. A law counts once. -/
mutual
def uptoBulk {H : Type} : DataW H → Nat
  | .lit (.string bytes) => bytes.length + 1
  | .lit _ => 1
  | .nil => 1
  | .ptr d => uptoBulk d + 1
  | .slice elems spare => uptoBulkAll elems + uptoBulkAll spare + 1
  | .agg parts => uptoBulkAll parts + 1
  | .iface _ d => uptoBulk d + 1
  | .map entries => uptoBulkEntries entries + 1
  | .held _ => 1
def uptoBulkAll {H : Type} : List (DataW H) → Nat
  | [] => 0
  | d :: r => uptoBulk d + uptoBulkAll r
def uptoBulkEntries {H : Type} : List (Lit × DataW H) → Nat
  | [] => 0
  | x :: r => uptoBulkEntry x + uptoBulkEntries r
def uptoBulkEntry {H : Type} : Lit × DataW H → Nat
  | (.string bytes, d) => bytes.length + uptoBulk d + 1
  | (_, d) => uptoBulk d + 1
 end
def uptoSmall : (H : Type) → List (DataW H) → Bool := fun _ ds => decide (uptoBulkAll ds ≤ 1048576)
def OpenSpec.upto (s : _root_.Go.ChangeSpec) : _root_.Go.OpenSpec := { _root_.Go.OpenSpec.ofChange s with cond := some uptoSmall }

/-- 'swagelaw5.Verifies', WHERE WHAT IT READS IS OF BULK AT MOST 1048576: true; the input reads as it did. -/
def verifiesUptoRow : OpenClaim := { program := "ytdjlaglilokjeaadoor", sum := "3b977d2b3e928190d2be1e4bfbaaff497c65484afc93fa7e5d329a74cb392cd5", func := "swage/swagelaw5.Verifies", spec := "verifies", inPlace := ["internal/reflectlite.ValueOf", "(internal/reflectlite.Value).Type", "(internal/reflectlite.Value).IsNil", "internal/reflectlite.TypeOf", "(internal/reflectlite.Value).Elem", "(internal/reflectlite.Value).Set"], unfollowed := true, recurses := true, named := ["errors.errorType"], apart := false, laid := [("errors.errorType", laid_errors_errorType)], narrowed := true }
def VerifiesUptoSaid : Prop := verifiesUptoRow.holds Tryd.pinned (OpenSpec.upto verifiesSpec)

/-- 'swagelaw5.VerifyFlows', WHERE WHAT IT READS IS OF BULK AT MOST 1048576: true; the input reads as it did. -/
def verifyFlowsUptoRow : OpenClaim := { program := "ytdjlaglilokjeaadoor", sum := "3b977d2b3e928190d2be1e4bfbaaff497c65484afc93fa7e5d329a74cb392cd5", func := "swage/swagelaw5.VerifyFlows", spec := "verifyFlows", inPlace := ["internal/reflectlite.ValueOf", "(internal/reflectlite.Value).Type", "(internal/reflectlite.Value).IsNil", "internal/reflectlite.TypeOf", "(internal/reflectlite.Value).Elem", "(internal/reflectlite.Value).Set"], unfollowed := true, recurses := true, named := ["errors.errorType"], apart := false, laid := [("errors.errorType", laid_errors_errorType)], narrowed := true }
def VerifyFlowsUptoSaid : Prop := verifyFlowsUptoRow.holds Tryd.pinned (OpenSpec.upto verifyFlowsSpec)

/-- 'swagelaw5.VerifyForms', WHERE WHAT IT READS IS OF BULK AT MOST 1048576: true; the input reads as it did. -/
def verifyFormsUptoRow : OpenClaim := { program := "ytdjlaglilokjeaadoor", sum := "3b977d2b3e928190d2be1e4bfbaaff497c65484afc93fa7e5d329a74cb392cd5", func := "swage/swagelaw5.VerifyForms", spec := "verifyForms", inPlace := ["internal/reflectlite.ValueOf", "(internal/reflectlite.Value).Type", "(internal/reflectlite.Value).IsNil", "internal/reflectlite.TypeOf", "(internal/reflectlite.Value).Elem", "(internal/reflectlite.Value).Set"], unfollowed := true, recurses := true, named := ["errors.errorType"], apart := false, laid := [("errors.errorType", laid_errors_errorType)], narrowed := true }
def VerifyFormsUptoSaid : Prop := verifyFormsUptoRow.holds Tryd.pinned (OpenSpec.upto verifyFormsSpec)

/-- 'swagelaw5.VerifyHeights', WHERE WHAT IT READS IS OF BULK AT MOST 1048576: true; the input reads as it did. -/
def verifyHeightsUptoRow : OpenClaim := { program := "ytdjlaglilokjeaadoor", sum := "3b977d2b3e928190d2be1e4bfbaaff497c65484afc93fa7e5d329a74cb392cd5", func := "swage/swagelaw5.VerifyHeights", spec := "verifyHeights", inPlace := ["internal/reflectlite.ValueOf", "(internal/reflectlite.Value).Type", "(internal/reflectlite.Value).IsNil", "internal/reflectlite.TypeOf", "(internal/reflectlite.Value).Elem", "(internal/reflectlite.Value).Set"], unfollowed := true, recurses := true, named := ["errors.errorType"], apart := false, laid := [("errors.errorType", laid_errors_errorType)], narrowed := true }
def VerifyHeightsUptoSaid : Prop := verifyHeightsUptoRow.holds Tryd.pinned (OpenSpec.upto verifyHeightsSpec)

/-- 'swagelaw5.VerifyMore', WHERE WHAT IT READS IS OF BULK AT MOST 1048576: true; the input reads as it did. -/
def verifyMoreUptoRow : OpenClaim := { program := "ytdjlaglilokjeaadoor", sum := "3b977d2b3e928190d2be1e4bfbaaff497c65484afc93fa7e5d329a74cb392cd5", func := "swage/swagelaw5.VerifyMore", spec := "verifyMore", inPlace := ["internal/reflectlite.ValueOf", "(internal/reflectlite.Value).Type", "(internal/reflectlite.Value).IsNil", "internal/reflectlite.TypeOf", "(internal/reflectlite.Value).Elem", "(internal/reflectlite.Value).Set"], unfollowed := true, recurses := true, named := ["errors.errorType"], apart := false, laid := [("errors.errorType", laid_errors_errorType)], narrowed := true }
def VerifyMoreUptoSaid : Prop := verifyMoreUptoRow.holds Tryd.pinned (OpenSpec.upto verifyMoreSpec)

/-- 'swagelaw6.FrameStarts', WHERE WHAT IT READS IS OF BULK AT MOST 1048576: true; the input reads as it did. -/
def frameStartsUptoRow : OpenClaim := { program := "ytdjlaglilokjeaadoor", sum := "3b977d2b3e928190d2be1e4bfbaaff497c65484afc93fa7e5d329a74cb392cd5", func := "swage/swagelaw6.FrameStarts", spec := "frameStarts", inPlace := ["internal/reflectlite.ValueOf", "(internal/reflectlite.Value).Type", "(internal/reflectlite.Value).IsNil", "internal/reflectlite.TypeOf", "(internal/reflectlite.Value).Elem", "(internal/reflectlite.Value).Set"], unfollowed := true, recurses := true, named := ["errors.errorType"], apart := false, laid := [("errors.errorType", laid_errors_errorType)], narrowed := true }
def FrameStartsUptoSaid : Prop := frameStartsUptoRow.holds Tryd.pinned (OpenSpec.upto frameStartsSpec)

/-- 'swagelaw6.FrameForms', WHERE WHAT IT READS IS OF BULK AT MOST 1048576: true; the input reads as it did. -/
def frameFormsUptoRow : OpenClaim := { program := "ytdjlaglilokjeaadoor", sum := "3b977d2b3e928190d2be1e4bfbaaff497c65484afc93fa7e5d329a74cb392cd5", func := "swage/swagelaw6.FrameForms", spec := "frameForms", inPlace := ["internal/reflectlite.ValueOf", "(internal/reflectlite.Value).Type", "(internal/reflectlite.Value).IsNil", "internal/reflectlite.TypeOf", "(internal/reflectlite.Value).Elem", "(internal/reflectlite.Value).Set"], unfollowed := true, recurses := true, named := ["errors.errorType"], apart := false, laid := [("errors.errorType", laid_errors_errorType)], narrowed := true }
def FrameFormsUptoSaid : Prop := frameFormsUptoRow.holds Tryd.pinned (OpenSpec.upto frameFormsSpec)

/-- 'swagelaw6.FrameOver', WHERE WHAT IT READS IS OF BULK AT MOST 1048576: true; the input reads as it did. -/
def frameOverUptoRow : OpenClaim := { program := "ytdjlaglilokjeaadoor", sum := "3b977d2b3e928190d2be1e4bfbaaff497c65484afc93fa7e5d329a74cb392cd5", func := "swage/swagelaw6.FrameOver", spec := "frameOver", inPlace := ["internal/reflectlite.ValueOf", "(internal/reflectlite.Value).Type", "(internal/reflectlite.Value).IsNil", "internal/reflectlite.TypeOf", "(internal/reflectlite.Value).Elem", "(internal/reflectlite.Value).Set"], unfollowed := true, recurses := true, named := ["errors.errorType"], apart := false, laid := [("errors.errorType", laid_errors_errorType)], narrowed := true }
def FrameOverUptoSaid : Prop := frameOverUptoRow.holds Tryd.pinned (OpenSpec.upto frameOverSpec)

/-- 'swagelaw6.FrameDeep', WHERE WHAT IT READS IS OF BULK AT MOST 1048576: true; the input reads as it did. -/
def frameDeepUptoRow : OpenClaim := { program := "ytdjlaglilokjeaadoor", sum := "3b977d2b3e928190d2be1e4bfbaaff497c65484afc93fa7e5d329a74cb392cd5", func := "swage/swagelaw6.FrameDeep", spec := "frameDeep", inPlace := ["internal/reflectlite.ValueOf", "(internal/reflectlite.Value).Type", "(internal/reflectlite.Value).IsNil", "internal/reflectlite.TypeOf", "(internal/reflectlite.Value).Elem", "(internal/reflectlite.Value).Set"], unfollowed := true, recurses := true, named := ["errors.errorType"], apart := false, laid := [("errors.errorType", laid_errors_errorType)], narrowed := true }
def FrameDeepUptoSaid : Prop := frameDeepUptoRow.holds Tryd.pinned (OpenSpec.upto frameDeepSpec)

end Rows
end Go.Proofs.YtdjlaglilokjeaaDoor
