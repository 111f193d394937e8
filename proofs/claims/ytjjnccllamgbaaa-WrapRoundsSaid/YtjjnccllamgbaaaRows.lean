/-
  No cell of these rows narrows 'for every input' (looked for: loops, veiled, ifaces, maps, wideKeys, modest, calm, conditions, laid).
  DERIVED. THE GIVEN ROWS OF THIS SEAT. 6 by the template 'for every input the law returns true; each argument reads behind the call as it read before'; 0 by the template 'total and deterministic' (their statements: YtjjnccllamgbaaaTotals.lean).
  GIVEN WITH THE SEED: the statements are not yours to turn. If you find one false, say at which input.
  Laid BY PROGRAM, IN A SANDBOX (cutbox-rows.mjs): the forced cells as the released guide's own fill.sh prints them over the translation 53f2de5212610bd5… (all of the seat's roots in one cut). By AI agents, Wed Nov 11 2026. No macro, syntax, notation, axiom, sorry.
-/
import Derived.Test.YtjjnccllamgbaaaChecked
import GoSem.Claim
import GoSem.ClaimJoined
import GoSem.ClaimMapViews
import Derived.JoinedTies
import Derived.KernelRfl
namespace Go.Proofs.Ytjjnccllamgbaaa
/- THE CELL 'sum', in the pinned program and in every row, IS THE sha256 OF THE DUMP (.gsa) THAT YtjjnccllamgbaaaProg.lean LOADS. Nothing in Lean hashes anything: it is a label: what it is worth is what the hold of that sum in a sandbox is worth. -/
noncomputable def Try.pinned : Pinned := { name := "ytjjnccllamgbaaa", sum := "53f2de5212610bd592bf66810bef7fda36c898b119484fd64769e6a6348c0569", checked := Try.checked }
namespace Rows
def none {H : Type} : Left H := { results := [], args := [] }

/-- 'swagelaw1.Wraps': WHATEVER THE INPUT: true; the input reads as it did. -/
def wrapsSpec : ChangeSpec := { name := "wraps", fn := fun _ => fun
  | [d1, d2, d3] => { results := [.lit (.bool true)], args := [d1, d2, d3] }
  | _ => none }
def wrapsRow : OpenClaim := { program := "ytjjnccllamgbaaa", sum := "53f2de5212610bd592bf66810bef7fda36c898b119484fd64769e6a6348c0569", func := "swage/swagelaw1.Wraps", spec := "wraps", apart := false }
def WrapsSaid : Prop := wrapsRow.holds Try.pinned (OpenSpec.ofChange wrapsSpec)

/-- ITS FALSE NEIGHBOUR: 'it returns false'. Refute it at one input. -/
def wrapsWrong : ChangeSpec := { name := "wraps", fn := fun _ => fun
  | [d1, d2, d3] => { results := [.lit (.bool false)], args := [d1, d2, d3] }
  | _ => none }
def WrapsWrongFalsely : Prop := wrapsRow.holds Try.pinned (OpenSpec.ofChange wrapsWrong)

/-- 'swagelaw1.WrapRounds': WHATEVER THE INPUT: true; the input reads as it did. -/
def wrapRoundsSpec : ChangeSpec := { name := "wrapRounds", fn := fun _ => fun
  | [d1, d2] => { results := [.lit (.bool true)], args := [d1, d2] }
  | _ => none }
def wrapRoundsRow : OpenClaim := { program := "ytjjnccllamgbaaa", sum := "53f2de5212610bd592bf66810bef7fda36c898b119484fd64769e6a6348c0569", func := "swage/swagelaw1.WrapRounds", spec := "wrapRounds", apart := false }
def WrapRoundsSaid : Prop := wrapRoundsRow.holds Try.pinned (OpenSpec.ofChange wrapRoundsSpec)

/-- ITS FALSE NEIGHBOUR: 'it returns false'. Refute it at one input. -/
def wrapRoundsWrong : ChangeSpec := { name := "wrapRounds", fn := fun _ => fun
  | [d1, d2] => { results := [.lit (.bool false)], args := [d1, d2] }
  | _ => none }
def WrapRoundsWrongFalsely : Prop := wrapRoundsRow.holds Try.pinned (OpenSpec.ofChange wrapRoundsWrong)

/-- 'swagelaw1.WrapParts': WHATEVER THE INPUT: true; the input reads as it did. -/
def wrapPartsSpec : ChangeSpec := { name := "wrapParts", fn := fun _ => fun
  | [d1, d2] => { results := [.lit (.bool true)], args := [d1, d2] }
  | _ => none }
def wrapPartsRow : OpenClaim := { program := "ytjjnccllamgbaaa", sum := "53f2de5212610bd592bf66810bef7fda36c898b119484fd64769e6a6348c0569", func := "swage/swagelaw1.WrapParts", spec := "wrapParts", apart := false }
def WrapPartsSaid : Prop := wrapPartsRow.holds Try.pinned (OpenSpec.ofChange wrapPartsSpec)

/-- ITS FALSE NEIGHBOUR: 'it returns false'. Refute it at one input. -/
def wrapPartsWrong : ChangeSpec := { name := "wrapParts", fn := fun _ => fun
  | [d1, d2] => { results := [.lit (.bool false)], args := [d1, d2] }
  | _ => none }
def WrapPartsWrongFalsely : Prop := wrapPartsRow.holds Try.pinned (OpenSpec.ofChange wrapPartsWrong)

/-- 'swagelaw1.WrapTable': WHATEVER THE INPUT: true; the input reads as it did. -/
def wrapTableSpec : ChangeSpec := { name := "wrapTable", fn := fun _ => fun
  | [d] => { results := [.lit (.bool true)], args := [d] }
  | _ => none }
def wrapTableRow : OpenClaim := { program := "ytjjnccllamgbaaa", sum := "53f2de5212610bd592bf66810bef7fda36c898b119484fd64769e6a6348c0569", func := "swage/swagelaw1.WrapTable", spec := "wrapTable", apart := false }
def WrapTableSaid : Prop := wrapTableRow.holds Try.pinned (OpenSpec.ofChange wrapTableSpec)

/-- ITS FALSE NEIGHBOUR: 'it returns false'. Refute it at one input. -/
def wrapTableWrong : ChangeSpec := { name := "wrapTable", fn := fun _ => fun
  | [d] => { results := [.lit (.bool false)], args := [d] }
  | _ => none }
def WrapTableWrongFalsely : Prop := wrapTableRow.holds Try.pinned (OpenSpec.ofChange wrapTableWrong)

/-- 'swagelaw1.WrapOrder': WHATEVER THE INPUT: true; the input reads as it did. -/
def wrapOrderSpec : ChangeSpec := { name := "wrapOrder", fn := fun _ => fun
  | [d1, d2] => { results := [.lit (.bool true)], args := [d1, d2] }
  | _ => none }
def wrapOrderRow : OpenClaim := { program := "ytjjnccllamgbaaa", sum := "53f2de5212610bd592bf66810bef7fda36c898b119484fd64769e6a6348c0569", func := "swage/swagelaw1.WrapOrder", spec := "wrapOrder", apart := false }
def WrapOrderSaid : Prop := wrapOrderRow.holds Try.pinned (OpenSpec.ofChange wrapOrderSpec)

/-- ITS FALSE NEIGHBOUR: 'it returns false'. Refute it at one input. -/
def wrapOrderWrong : ChangeSpec := { name := "wrapOrder", fn := fun _ => fun
  | [d1, d2] => { results := [.lit (.bool false)], args := [d1, d2] }
  | _ => none }
def WrapOrderWrongFalsely : Prop := wrapOrderRow.holds Try.pinned (OpenSpec.ofChange wrapOrderWrong)

/-- 'swagelaw1.WrapForms': WHATEVER THE INPUT: true; the input reads as it did. -/
def wrapFormsSpec : ChangeSpec := { name := "wrapForms", fn := fun _ => fun
  | [d1, d2] => { results := [.lit (.bool true)], args := [d1, d2] }
  | _ => none }
def wrapFormsRow : OpenClaim := { program := "ytjjnccllamgbaaa", sum := "53f2de5212610bd592bf66810bef7fda36c898b119484fd64769e6a6348c0569", func := "swage/swagelaw1.WrapForms", spec := "wrapForms", apart := false }
def WrapFormsSaid : Prop := wrapFormsRow.holds Try.pinned (OpenSpec.ofChange wrapFormsSpec)

/-- ITS FALSE NEIGHBOUR: 'it returns false'. Refute it at one input. -/
def wrapFormsWrong : ChangeSpec := { name := "wrapForms", fn := fun _ => fun
  | [d1, d2] => { results := [.lit (.bool false)], args := [d1, d2] }
  | _ => none }
def WrapFormsWrongFalsely : Prop := wrapFormsRow.holds Try.pinned (OpenSpec.ofChange wrapFormsWrong)

/- THE SECOND FORM. 'bulk': how many values and letters a reading holds, each counted each time it is reached (what is shared counts as often as it is met; a slice's spare places count too). A statement '..UptoSaid' is the law's where the arguments, and the package variables that the reading takes, are together of bulk at most 1048576: NARROWER than '..Said'. Prove '..Said' where nothing that the law and all that it calls make is longer than what came in: it says more and counts as full. Else prove '..UptoSaid'. A law counts once. -/
mutual
def uptoBulk {H : Type} : DataW H → Nat
  | .lit (.string bytes) => bytes.length + 1
  | .lit _ => 1
  | .nil => 1
  | .ptr d => uptoBulk d + 1
  | .slice elems spare => uptoBulkAll elems + uptoBulkAll spare + 1
  | .agg parts => uptoBulkAll parts + 1
  | .iface _ d => uptoBulk d + 1
  | .map entries => uptoBulkEntries entries + 1
  | .held _ => 1
def uptoBulkAll {H : Type} : List (DataW H) → Nat
  | [] => 0
  | d :: r => uptoBulk d + uptoBulkAll r
def uptoBulkEntries {H : Type} : List (Lit × DataW H) → Nat
  | [] => 0
  | x :: r => uptoBulkEntry x + uptoBulkEntries r
def uptoBulkEntry {H : Type} : Lit × DataW H → Nat
  | (.string bytes, d) => bytes.length + uptoBulk d + 1
  | (_, d) => uptoBulk d + 1
 end
def uptoSmall : (H : Type) → List (DataW H) → Bool := fun _ ds => decide (uptoBulkAll ds ≤ 1048576)
def OpenSpec.upto (s : _root_.Go.ChangeSpec) : _root_.Go.OpenSpec := { _root_.Go.OpenSpec.ofChange s with cond := some uptoSmall }

/-- 'swagelaw1.Wraps', WHERE WHAT IT READS IS OF BULK AT MOST 1048576: true; the input reads as it did. -/
def wrapsUptoRow : OpenClaim := { program := "ytjjnccllamgbaaa", sum := "53f2de5212610bd592bf66810bef7fda36c898b119484fd64769e6a6348c0569", func := "swage/swagelaw1.Wraps", spec := "wraps", apart := false, narrowed := true }
def WrapsUptoSaid : Prop := wrapsUptoRow.holds Try.pinned (OpenSpec.upto wrapsSpec)

/-- 'swagelaw1.WrapRounds', WHERE WHAT IT READS IS OF BULK AT MOST 1048576: true; the input reads as it did. -/
def wrapRoundsUptoRow : OpenClaim := { program := "ytjjnccllamgbaaa", sum := "53f2de5212610bd592bf66810bef7fda36c898b119484fd64769e6a6348c0569", func := "swage/swagelaw1.WrapRounds", spec := "wrapRounds", apart := false, narrowed := true }
def WrapRoundsUptoSaid : Prop := wrapRoundsUptoRow.holds Try.pinned (OpenSpec.upto wrapRoundsSpec)

/-- 'swagelaw1.WrapParts', WHERE WHAT IT READS IS OF BULK AT MOST 1048576: true; the input reads as it did. -/
def wrapPartsUptoRow : OpenClaim := { program := "ytjjnccllamgbaaa", sum := "53f2de5212610bd592bf66810bef7fda36c898b119484fd64769e6a6348c0569", func := "swage/swagelaw1.WrapParts", spec := "wrapParts", apart := false, narrowed := true }
def WrapPartsUptoSaid : Prop := wrapPartsUptoRow.holds Try.pinned (OpenSpec.upto wrapPartsSpec)

/-- 'swagelaw1.WrapTable', WHERE WHAT IT READS IS OF BULK AT MOST 1048576: true; the input reads as it did. -/
def wrapTableUptoRow : OpenClaim := { program := "ytjjnccllamgbaaa", sum := "53f2de5212610bd592bf66810bef7fda36c898b119484fd64769e6a6348c0569", func := "swage/swagelaw1.WrapTable", spec := "wrapTable", apart := false, narrowed := true }
def WrapTableUptoSaid : Prop := wrapTableUptoRow.holds Try.pinned (OpenSpec.upto wrapTableSpec)

/-- 'swagelaw1.WrapOrder', WHERE WHAT IT READS IS OF BULK AT MOST 1048576: true; the input reads as it did. -/
def wrapOrderUptoRow : OpenClaim := { program := "ytjjnccllamgbaaa", sum := "53f2de5212610bd592bf66810bef7fda36c898b119484fd64769e6a6348c0569", func := "swage/swagelaw1.WrapOrder", spec := "wrapOrder", apart := false, narrowed := true }
def WrapOrderUptoSaid : Prop := wrapOrderUptoRow.holds Try.pinned (OpenSpec.upto wrapOrderSpec)

/-- 'swagelaw1.WrapForms', WHERE WHAT IT READS IS OF BULK AT MOST 1048576: true; the input reads as it did. -/
def wrapFormsUptoRow : OpenClaim := { program := "ytjjnccllamgbaaa", sum := "53f2de5212610bd592bf66810bef7fda36c898b119484fd64769e6a6348c0569", func := "swage/swagelaw1.WrapForms", spec := "wrapForms", apart := false, narrowed := true }
def WrapFormsUptoSaid : Prop := wrapFormsUptoRow.holds Try.pinned (OpenSpec.upto wrapFormsSpec)

end Rows
end Go.Proofs.Ytjjnccllamgbaaa
