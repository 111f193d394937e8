/-
  DERIVED. GIVEN WITH THE SEED: THE CARDS: each row of YtjjnccllamgbaaaDoorRows.lean that lists a variable, with what it lists TIED to the program's text (the seventh form; the later family's looks); each row that meets fmt, with fmt's text TOLD by the authors' own Lean function (tested against real Go, not proved from fmt's source: count such statements apart). THE CARD IS WHAT COUNTS. Prove the row's statement (the work); the ties are given (YtjjnccllamgbaaaDoorTie.lean); close each card by the builder's one call (the guide's Derived/Test/ToyasCard.lean, 'card_holds'). Laid BY PROGRAM, IN A SANDBOX (cutbox-door.mjs). By AI agents, Wed Nov 11 2026. No macro, syntax, notation, axiom, sorry.
-/
import Derived.Test.YtjjnccllamgbaaaDoorRows
import GoSem.ClaimSeven
namespace Go.Proofs.YtjjnccllamgbaaaDoor
namespace Rows

/-- THE TIED CARD OF 'swagelaw23.Arenas'. -/
def arenasCard : Claim7 := { stood := { row := arenasRow, standIns := [], harness := (true, "60e47163530730a84b84a896e2aa94f748b393c9a425f958c7ca47404d52b158"), looks := true }, kinds := [], alts := [], laidByText := true, laidKinds := [.handle], laidTests := true, laidLooks := .later }
def ArenasCardSaid : Prop := Claim7.holds Tryd.pinned (.plain (OpenSpec.ofChange arenasSpec)) arenasCard

/-- THE TIED CARD OF 'swagelaw23.ArenaRound'. -/
def arenaRoundCard : Claim7 := { stood := { row := arenaRoundRow, standIns := [], harness := (true, "60e47163530730a84b84a896e2aa94f748b393c9a425f958c7ca47404d52b158"), looks := true }, kinds := [], alts := [], laidByText := true, laidKinds := [.handle], laidTests := true, laidLooks := .later }
def ArenaRoundCardSaid : Prop := Claim7.holds Tryd.pinned (.plain (OpenSpec.ofChange arenaRoundSpec)) arenaRoundCard

/-- THE TIED CARD OF 'swagelaw23.ArenaForms'. -/
def arenaFormsCard : Claim7 := { stood := { row := arenaFormsRow, standIns := [], harness := (true, "60e47163530730a84b84a896e2aa94f748b393c9a425f958c7ca47404d52b158"), looks := true }, kinds := [], alts := [], laidByText := true, laidKinds := [.handle], laidTests := true, laidLooks := .later }
def ArenaFormsCardSaid : Prop := Claim7.holds Tryd.pinned (.plain (OpenSpec.ofChange arenaFormsSpec)) arenaFormsCard

/-- THE TIED CARD OF 'swagelaw23.ArenaFirst'. -/
def arenaFirstCard : Claim7 := { stood := { row := arenaFirstRow, standIns := [], harness := (true, "60e47163530730a84b84a896e2aa94f748b393c9a425f958c7ca47404d52b158"), looks := true }, kinds := [], alts := [], laidByText := true, laidKinds := [.handle], laidTests := true, laidLooks := .later }
def ArenaFirstCardSaid : Prop := Claim7.holds Tryd.pinned (.plain (OpenSpec.ofChange arenaFirstSpec)) arenaFirstCard

/-- THE TIED CARD OF 'swagelaw23.ArenaBounds'. -/
def arenaBoundsCard : Claim7 := { stood := { row := arenaBoundsRow, standIns := [], harness := (true, "60e47163530730a84b84a896e2aa94f748b393c9a425f958c7ca47404d52b158"), looks := true }, kinds := [], alts := [], laidByText := true, laidKinds := [.handle], laidTests := true, laidLooks := .later }
def ArenaBoundsCardSaid : Prop := Claim7.holds Tryd.pinned (.plain (OpenSpec.ofChange arenaBoundsSpec)) arenaBoundsCard

/-- THE SECOND FORM's CARD OF 'swagelaw23.Arenas'. -/
def arenasUptoCard : Claim7 := { stood := { row := arenasUptoRow, standIns := [], harness := (true, "60e47163530730a84b84a896e2aa94f748b393c9a425f958c7ca47404d52b158"), looks := true }, kinds := [], alts := [], laidByText := true, laidKinds := [.handle], laidTests := true, laidLooks := .later }
def ArenasUptoCardSaid : Prop := Claim7.holds Tryd.pinned (.plain (OpenSpec.upto arenasSpec)) arenasUptoCard

/-- THE SECOND FORM's CARD OF 'swagelaw23.ArenaRound'. -/
def arenaRoundUptoCard : Claim7 := { stood := { row := arenaRoundUptoRow, standIns := [], harness := (true, "60e47163530730a84b84a896e2aa94f748b393c9a425f958c7ca47404d52b158"), looks := true }, kinds := [], alts := [], laidByText := true, laidKinds := [.handle], laidTests := true, laidLooks := .later }
def ArenaRoundUptoCardSaid : Prop := Claim7.holds Tryd.pinned (.plain (OpenSpec.upto arenaRoundSpec)) arenaRoundUptoCard

/-- THE SECOND FORM's CARD OF 'swagelaw23.ArenaForms'. -/
def arenaFormsUptoCard : Claim7 := { stood := { row := arenaFormsUptoRow, standIns := [], harness := (true, "60e47163530730a84b84a896e2aa94f748b393c9a425f958c7ca47404d52b158"), looks := true }, kinds := [], alts := [], laidByText := true, laidKinds := [.handle], laidTests := true, laidLooks := .later }
def ArenaFormsUptoCardSaid : Prop := Claim7.holds Tryd.pinned (.plain (OpenSpec.upto arenaFormsSpec)) arenaFormsUptoCard

/-- THE SECOND FORM's CARD OF 'swagelaw23.ArenaFirst'. -/
def arenaFirstUptoCard : Claim7 := { stood := { row := arenaFirstUptoRow, standIns := [], harness := (true, "60e47163530730a84b84a896e2aa94f748b393c9a425f958c7ca47404d52b158"), looks := true }, kinds := [], alts := [], laidByText := true, laidKinds := [.handle], laidTests := true, laidLooks := .later }
def ArenaFirstUptoCardSaid : Prop := Claim7.holds Tryd.pinned (.plain (OpenSpec.upto arenaFirstSpec)) arenaFirstUptoCard

/-- THE SECOND FORM's CARD OF 'swagelaw23.ArenaBounds'. -/
def arenaBoundsUptoCard : Claim7 := { stood := { row := arenaBoundsUptoRow, standIns := [], harness := (true, "60e47163530730a84b84a896e2aa94f748b393c9a425f958c7ca47404d52b158"), looks := true }, kinds := [], alts := [], laidByText := true, laidKinds := [.handle], laidTests := true, laidLooks := .later }
def ArenaBoundsUptoCardSaid : Prop := Claim7.holds Tryd.pinned (.plain (OpenSpec.upto arenaBoundsSpec)) arenaBoundsUptoCard
end Rows
end Go.Proofs.YtjjnccllamgbaaaDoor
