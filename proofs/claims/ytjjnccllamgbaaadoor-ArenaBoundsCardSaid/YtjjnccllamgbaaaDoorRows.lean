/-
  NARROWER THAN 'FOR EVERY INPUT', by the rows' own cells (each row's printed sentence says how): Arenas: laid · ArenaRound: laid · ArenaForms: laid · ArenaFirst: laid · ArenaBounds: laid.
  DERIVED. THE GIVEN ROWS OF THIS SEAT. 5 by the template 'for every input the law returns true; each argument reads behind the call as it read before'; 0 by the template 'total and deterministic' (their statements: YtjjnccllamgbaaaDoorTotals.lean).
  GIVEN WITH THE SEED: the statements are not yours to turn. If you find one false, say at which input.
  Laid BY PROGRAM, IN A SANDBOX (cutbox-rows.mjs): the forced cells as the released guide's own fill.sh prints them over the translation 9172722b9466d67c… (all of the seat's roots in one cut). By AI agents, Wed Nov 11 2026. No macro, syntax, notation, axiom, sorry.
-/
import Derived.Test.YtjjnccllamgbaaaDoorChecked
import GoSem.Claim
import GoSem.ClaimJoined
import GoSem.ClaimMapViews
import Derived.JoinedTies
import Derived.KernelRfl
namespace Go.Proofs.YtjjnccllamgbaaaDoor
/- THE CELL 'sum', in the pinned program and in every row, IS THE sha256 OF THE DUMP (.gsa) THAT YtjjnccllamgbaaaDoorProg.lean LOADS. Nothing in Lean hashes anything: it is a label: what it is worth is what the hold of that sum in a sandbox is worth. -/
noncomputable def Tryd.pinned : Pinned := { name := "ytjjnccllamgbaaadoor", sum := "9172722b9466d67c5e3331724e17d7f1fac92b6dded0ad5816bcc892e8215eb8", checked := Tryd.checked }
namespace Rows
def none {H : Type} : Left H := { results := [], args := [] }

/- WHAT THE LISTED PACKAGE-LEVEL VARIABLES READ AS WHEN THE CALL BEGINS. Each datum BY PROGRAM (the guide's laid-datum.mjs) off the statement by which the dump's own 'gosem.cut.vars' lays the variable. In a bare row this is a premise. The card (YtjjnccllamgbaaaDoorCards.lean) ties it to the program's text. -/
def laid_errors_errorType {H : Type} : DataW H := .iface "internal/reflectlite.rtype" (.agg [.ptr (.lit (.string [101, 114, 114, 111, 114]))])

/-- 'swagelaw23.Arenas': WHATEVER THE INPUT: true; the input reads as it did. -/
def arenasSpec : ChangeSpec := { name := "arenas", fn := fun _ => fun
  | [d1, d2] => { results := [.lit (.bool true)], args := [d1, d2] }
  | _ => none }
def arenasRow : OpenClaim := { program := "ytjjnccllamgbaaadoor", sum := "9172722b9466d67c5e3331724e17d7f1fac92b6dded0ad5816bcc892e8215eb8", func := "swage/swagelaw23.Arenas", spec := "arenas", inPlace := ["internal/reflectlite.ValueOf", "(internal/reflectlite.Value).Type", "(internal/reflectlite.Value).IsNil", "internal/reflectlite.TypeOf", "(internal/reflectlite.Value).Elem", "(internal/reflectlite.Value).Set"], unfollowed := true, recurses := true, named := ["errors.errorType"], apart := false, laid := [("errors.errorType", laid_errors_errorType)] }
def ArenasSaid : Prop := arenasRow.holds Tryd.pinned (OpenSpec.ofChange arenasSpec)

/-- ITS FALSE NEIGHBOUR: 'it returns false'. Refute it at one input. -/
def arenasWrong : ChangeSpec := { name := "arenas", fn := fun _ => fun
  | [d1, d2] => { results := [.lit (.bool false)], args := [d1, d2] }
  | _ => none }
def ArenasWrongFalsely : Prop := arenasRow.holds Tryd.pinned (OpenSpec.ofChange arenasWrong)

/-- 'swagelaw23.ArenaRound': WHATEVER THE INPUT: true; the input reads as it did. -/
def arenaRoundSpec : ChangeSpec := { name := "arenaRound", fn := fun _ => fun
  | [d1, d2, d3] => { results := [.lit (.bool true)], args := [d1, d2, d3] }
  | _ => none }
def arenaRoundRow : OpenClaim := { program := "ytjjnccllamgbaaadoor", sum := "9172722b9466d67c5e3331724e17d7f1fac92b6dded0ad5816bcc892e8215eb8", func := "swage/swagelaw23.ArenaRound", spec := "arenaRound", inPlace := ["internal/reflectlite.ValueOf", "(internal/reflectlite.Value).Type", "(internal/reflectlite.Value).IsNil", "internal/reflectlite.TypeOf", "(internal/reflectlite.Value).Elem", "(internal/reflectlite.Value).Set"], unfollowed := true, recurses := true, named := ["errors.errorType"], apart := false, laid := [("errors.errorType", laid_errors_errorType)] }
def ArenaRoundSaid : Prop := arenaRoundRow.holds Tryd.pinned (OpenSpec.ofChange arenaRoundSpec)

/-- ITS FALSE NEIGHBOUR: 'it returns false'. Refute it at one input. -/
def arenaRoundWrong : ChangeSpec := { name := "arenaRound", fn := fun _ => fun
  | [d1, d2, d3] => { results := [.lit (.bool false)], args := [d1, d2, d3] }
  | _ => none }
def ArenaRoundWrongFalsely : Prop := arenaRoundRow.holds Tryd.pinned (OpenSpec.ofChange arenaRoundWrong)

/-- 'swagelaw23.ArenaForms': WHATEVER THE INPUT: true; the input reads as it did. -/
def arenaFormsSpec : ChangeSpec := { name := "arenaForms", fn := fun _ => fun
  | [d] => { results := [.lit (.bool true)], args := [d] }
  | _ => none }
def arenaFormsRow : OpenClaim := { program := "ytjjnccllamgbaaadoor", sum := "9172722b9466d67c5e3331724e17d7f1fac92b6dded0ad5816bcc892e8215eb8", func := "swage/swagelaw23.ArenaForms", spec := "arenaForms", inPlace := ["internal/reflectlite.ValueOf", "(internal/reflectlite.Value).Type", "(internal/reflectlite.Value).IsNil", "internal/reflectlite.TypeOf", "(internal/reflectlite.Value).Elem", "(internal/reflectlite.Value).Set"], unfollowed := true, recurses := true, named := ["errors.errorType"], apart := false, laid := [("errors.errorType", laid_errors_errorType)] }
def ArenaFormsSaid : Prop := arenaFormsRow.holds Tryd.pinned (OpenSpec.ofChange arenaFormsSpec)

/-- ITS FALSE NEIGHBOUR: 'it returns false'. Refute it at one input. -/
def arenaFormsWrong : ChangeSpec := { name := "arenaForms", fn := fun _ => fun
  | [d] => { results := [.lit (.bool false)], args := [d] }
  | _ => none }
def ArenaFormsWrongFalsely : Prop := arenaFormsRow.holds Tryd.pinned (OpenSpec.ofChange arenaFormsWrong)

/-- 'swagelaw23.ArenaFirst': WHATEVER THE INPUT: true; the input reads as it did. -/
def arenaFirstSpec : ChangeSpec := { name := "arenaFirst", fn := fun _ => fun
  | [d1, d2] => { results := [.lit (.bool true)], args := [d1, d2] }
  | _ => none }
def arenaFirstRow : OpenClaim := { program := "ytjjnccllamgbaaadoor", sum := "9172722b9466d67c5e3331724e17d7f1fac92b6dded0ad5816bcc892e8215eb8", func := "swage/swagelaw23.ArenaFirst", spec := "arenaFirst", inPlace := ["internal/reflectlite.ValueOf", "(internal/reflectlite.Value).Type", "(internal/reflectlite.Value).IsNil", "internal/reflectlite.TypeOf", "(internal/reflectlite.Value).Elem", "(internal/reflectlite.Value).Set"], unfollowed := true, recurses := true, named := ["errors.errorType"], apart := false, laid := [("errors.errorType", laid_errors_errorType)] }
def ArenaFirstSaid : Prop := arenaFirstRow.holds Tryd.pinned (OpenSpec.ofChange arenaFirstSpec)

/-- ITS FALSE NEIGHBOUR: 'it returns false'. Refute it at one input. -/
def arenaFirstWrong : ChangeSpec := { name := "arenaFirst", fn := fun _ => fun
  | [d1, d2] => { results := [.lit (.bool false)], args := [d1, d2] }
  | _ => none }
def ArenaFirstWrongFalsely : Prop := arenaFirstRow.holds Tryd.pinned (OpenSpec.ofChange arenaFirstWrong)

/-- 'swagelaw23.ArenaBounds': WHATEVER THE INPUT: true; the input reads as it did. -/
def arenaBoundsSpec : ChangeSpec := { name := "arenaBounds", fn := fun _ => fun
  | [d1, d2] => { results := [.lit (.bool true)], args := [d1, d2] }
  | _ => none }
def arenaBoundsRow : OpenClaim := { program := "ytjjnccllamgbaaadoor", sum := "9172722b9466d67c5e3331724e17d7f1fac92b6dded0ad5816bcc892e8215eb8", func := "swage/swagelaw23.ArenaBounds", spec := "arenaBounds", inPlace := ["internal/reflectlite.ValueOf", "(internal/reflectlite.Value).Type", "(internal/reflectlite.Value).IsNil", "internal/reflectlite.TypeOf", "(internal/reflectlite.Value).Elem", "(internal/reflectlite.Value).Set"], unfollowed := true, recurses := true, named := ["errors.errorType"], apart := false, laid := [("errors.errorType", laid_errors_errorType)] }
def ArenaBoundsSaid : Prop := arenaBoundsRow.holds Tryd.pinned (OpenSpec.ofChange arenaBoundsSpec)

/-- ITS FALSE NEIGHBOUR: 'it returns false'. Refute it at one input. -/
def arenaBoundsWrong : ChangeSpec := { name := "arenaBounds", fn := fun _ => fun
  | [d1, d2] => { results := [.lit (.bool false)], args := [d1, d2] }
  | _ => none }
def ArenaBoundsWrongFalsely : Prop := arenaBoundsRow.holds Tryd.pinned (OpenSpec.ofChange arenaBoundsWrong)

/- THE SECOND FORM. 'bulk': how many values and letters a reading holds, each counted each time it is reached (what is shared counts as often as it is met; a slice's spare places count too). A statement '..UptoSaid' is the law's where the arguments, and the package variables that the reading takes, are together of bulk at most 1048576: NARROWER than '..Said'. Prove '..Said' where nothing that the law and all that it calls make is longer than what came in: it says more and counts as full. Else prove '..UptoSaid'. A law counts once. -/
mutual
def uptoBulk {H : Type} : DataW H → Nat
  | .lit (.string bytes) => bytes.length + 1
  | .lit _ => 1
  | .nil => 1
  | .ptr d => uptoBulk d + 1
  | .slice elems spare => uptoBulkAll elems + uptoBulkAll spare + 1
  | .agg parts => uptoBulkAll parts + 1
  | .iface _ d => uptoBulk d + 1
  | .map entries => uptoBulkEntries entries + 1
  | .held _ => 1
def uptoBulkAll {H : Type} : List (DataW H) → Nat
  | [] => 0
  | d :: r => uptoBulk d + uptoBulkAll r
def uptoBulkEntries {H : Type} : List (Lit × DataW H) → Nat
  | [] => 0
  | x :: r => uptoBulkEntry x + uptoBulkEntries r
def uptoBulkEntry {H : Type} : Lit × DataW H → Nat
  | (.string bytes, d) => bytes.length + uptoBulk d + 1
  | (_, d) => uptoBulk d + 1
 end
def uptoSmall : (H : Type) → List (DataW H) → Bool := fun _ ds => decide (uptoBulkAll ds ≤ 1048576)
def OpenSpec.upto (s : _root_.Go.ChangeSpec) : _root_.Go.OpenSpec := { _root_.Go.OpenSpec.ofChange s with cond := some uptoSmall }

/-- 'swagelaw23.Arenas', WHERE WHAT IT READS IS OF BULK AT MOST 1048576: true; the input reads as it did. -/
def arenasUptoRow : OpenClaim := { program := "ytjjnccllamgbaaadoor", sum := "9172722b9466d67c5e3331724e17d7f1fac92b6dded0ad5816bcc892e8215eb8", func := "swage/swagelaw23.Arenas", spec := "arenas", inPlace := ["internal/reflectlite.ValueOf", "(internal/reflectlite.Value).Type", "(internal/reflectlite.Value).IsNil", "internal/reflectlite.TypeOf", "(internal/reflectlite.Value).Elem", "(internal/reflectlite.Value).Set"], unfollowed := true, recurses := true, named := ["errors.errorType"], apart := false, laid := [("errors.errorType", laid_errors_errorType)], narrowed := true }
def ArenasUptoSaid : Prop := arenasUptoRow.holds Tryd.pinned (OpenSpec.upto arenasSpec)

/-- 'swagelaw23.ArenaRound', WHERE WHAT IT READS IS OF BULK AT MOST 1048576: true; the input reads as it did. -/
def arenaRoundUptoRow : OpenClaim := { program := "ytjjnccllamgbaaadoor", sum := "9172722b9466d67c5e3331724e17d7f1fac92b6dded0ad5816bcc892e8215eb8", func := "swage/swagelaw23.ArenaRound", spec := "arenaRound", inPlace := ["internal/reflectlite.ValueOf", "(internal/reflectlite.Value).Type", "(internal/reflectlite.Value).IsNil", "internal/reflectlite.TypeOf", "(internal/reflectlite.Value).Elem", "(internal/reflectlite.Value).Set"], unfollowed := true, recurses := true, named := ["errors.errorType"], apart := false, laid := [("errors.errorType", laid_errors_errorType)], narrowed := true }
def ArenaRoundUptoSaid : Prop := arenaRoundUptoRow.holds Tryd.pinned (OpenSpec.upto arenaRoundSpec)

/-- 'swagelaw23.ArenaForms', WHERE WHAT IT READS IS OF BULK AT MOST 1048576: true; the input reads as it did. -/
def arenaFormsUptoRow : OpenClaim := { program := "ytjjnccllamgbaaadoor", sum := "9172722b9466d67c5e3331724e17d7f1fac92b6dded0ad5816bcc892e8215eb8", func := "swage/swagelaw23.ArenaForms", spec := "arenaForms", inPlace := ["internal/reflectlite.ValueOf", "(internal/reflectlite.Value).Type", "(internal/reflectlite.Value).IsNil", "internal/reflectlite.TypeOf", "(internal/reflectlite.Value).Elem", "(internal/reflectlite.Value).Set"], unfollowed := true, recurses := true, named := ["errors.errorType"], apart := false, laid := [("errors.errorType", laid_errors_errorType)], narrowed := true }
def ArenaFormsUptoSaid : Prop := arenaFormsUptoRow.holds Tryd.pinned (OpenSpec.upto arenaFormsSpec)

/-- 'swagelaw23.ArenaFirst', WHERE WHAT IT READS IS OF BULK AT MOST 1048576: true; the input reads as it did. -/
def arenaFirstUptoRow : OpenClaim := { program := "ytjjnccllamgbaaadoor", sum := "9172722b9466d67c5e3331724e17d7f1fac92b6dded0ad5816bcc892e8215eb8", func := "swage/swagelaw23.ArenaFirst", spec := "arenaFirst", inPlace := ["internal/reflectlite.ValueOf", "(internal/reflectlite.Value).Type", "(internal/reflectlite.Value).IsNil", "internal/reflectlite.TypeOf", "(internal/reflectlite.Value).Elem", "(internal/reflectlite.Value).Set"], unfollowed := true, recurses := true, named := ["errors.errorType"], apart := false, laid := [("errors.errorType", laid_errors_errorType)], narrowed := true }
def ArenaFirstUptoSaid : Prop := arenaFirstUptoRow.holds Tryd.pinned (OpenSpec.upto arenaFirstSpec)

/-- 'swagelaw23.ArenaBounds', WHERE WHAT IT READS IS OF BULK AT MOST 1048576: true; the input reads as it did. -/
def arenaBoundsUptoRow : OpenClaim := { program := "ytjjnccllamgbaaadoor", sum := "9172722b9466d67c5e3331724e17d7f1fac92b6dded0ad5816bcc892e8215eb8", func := "swage/swagelaw23.ArenaBounds", spec := "arenaBounds", inPlace := ["internal/reflectlite.ValueOf", "(internal/reflectlite.Value).Type", "(internal/reflectlite.Value).IsNil", "internal/reflectlite.TypeOf", "(internal/reflectlite.Value).Elem", "(internal/reflectlite.Value).Set"], unfollowed := true, recurses := true, named := ["errors.errorType"], apart := false, laid := [("errors.errorType", laid_errors_errorType)], narrowed := true }
def ArenaBoundsUptoSaid : Prop := arenaBoundsUptoRow.holds Tryd.pinned (OpenSpec.upto arenaBoundsSpec)

end Rows
end Go.Proofs.YtjjnccllamgbaaaDoor
