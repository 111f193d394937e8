/- A region that draws its order, whose operations read and whose callees leave all that is old: walked once, in the order of the text. Plain lemmas. -/
import Derived.Test.YtpfgklkdldkajaaDoorMem
import Derived.Deep.Quiet
import Derived.Deep.QuietTactic
import Derived.BigQuiet
namespace Go.Proofs.YtpfgklkdldkajaaDoor
open Go.RowKit

/-- A world in which all that is old is as it was. -/
def Bel (w w' : World) : Prop := Below w.heap.size w w'
theorem wp_region_bel {P : Program} {id : Nat} {Q : Exit → Act → World → Prop} {a : Act} {w : World} {l : List Oper} (hm : P.follows .mixedOrders = true) (hB : Region.lexB .any l.toArray = true)
    (h : wpQuiet P l.toArray (Bel w) (fun a' => ∀ w', Bel w w' → Q .normal a' w') l a) : (Code.region id l.toArray true).wp P Q a w :=
  wp_region_quiet (C := Bel w) hm hB ⟨rfl, rfl, rfl, Nat.le_refl _, fun _ _ => rfl⟩ (by simpa using h)
theorem bel_trans {w w1 w2 : World} (h : Bel w w1) (k : Below w1.heap.size w1 w2) : Bel w w2 := below_trans h k
theorem bel_refl (w : World) : Bel w w := Below.refl _ _
end Go.Proofs.YtpfgklkdldkajaaDoor
