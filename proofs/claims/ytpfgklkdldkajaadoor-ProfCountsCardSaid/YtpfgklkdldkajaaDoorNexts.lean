/- 'flow.Next' and the document's 'Next', at a pc that there is, of code that may be. Conditions: the function's code lies in memory as it is said. -/
import Derived.Test.YtpfgklkdldkajaaDoorFlow
namespace Go.Proofs.YtpfgklkdldkajaaDoor
open Go.RowKit

/-- A call that answers a list of ints and a number; nothing old turns. -/
def ListsE (l : List Int) (n : Int) (w : World) (e : Ending) (w' : World) : Prop := ∃ A c, e = .returned (.tuple #[.slice A l.length c, .int .i64 n]) ∧ ReadsI w' A l ∧ Below w.heap.size w w' ∧ ∀ a, A = some a → w.heap.size ≤ a.block
theorem fnAt_new (f : Fn) (A : Option Addr) (c : Nat) (w : World) (hr : ReadsC w A f.code) : FnAt (w.alloc (.cells #[.int .i64 f.args, .int .i64 f.locals, .slice A f.code.length c] 31)) ⟨w.heap.size, 0, none⟩ f A c :=
  ⟨(blk_cell (blk_new w _) 0).trans rfl, (blk_cell (blk_new w _) 1).trans rfl, (blk_cell (blk_new w _) 2).trans rfl, hr.below (below_alloc (Below.refl _ _) _)⟩
set_option maxRecDepth 100000 in
theorem nextF_any (f : Fn) (A : Option Addr) (c : Nat) (pc : Nat) (w : World) (hr : ReadsC w A f.code) (hm : codeMay f.code = true) (hpc : pc < f.code.length) :
    Calls Tryd.prog 70 #[fnV f A c, .int .i64 pc] w (ListsE (nextOf f.code.length pc f.code[pc]) 0 w) := by
  have b1 : Below w.heap.size w (w.alloc (.cells #[.int .i64 f.args, .int .i64 f.locals, .slice A f.code.length c] 31)) := below_alloc (Below.refl _ _) _
  have hF := fnAt_new f A c w hr
  have HM := Lib.hid (flowMay_any _ f A c _ hF)
  rw [hm] at HM
  have hn : f.code.length ≤ 9223372036854775807 := hr.1
  have HF := Lib.hid hF
  have d1 : decide ((pc : Int) < 0) = false := by simp
  have d2 : decide (f.code.length ≤ pc) = false := by simpa using hpc
  clear hr hF hm
  unfold fnV
  go_enter Tryd.func70, Tryd.ntmps70
  go_wp2_with fail
  refine HM.out.mono ?_
  rintro e w2 ⟨rfl, hB⟩
  have hF2 := HF.out.below hB
  have c2 := hF2.c2
  have HN := Lib.hid (next_any _ f A c pc w2 hF2 hpc)
  have B2 := Lib.hid (below_trans b1 hB)
  clear hF2 hB b1 HF HM
  go_wp2_with fail
  refine HN.out.mono ?_
  rintro e w3 ⟨B, d, rfl, hl, hB3, hlo⟩
  have HL := Lib.hid hl
  have B3 := Lib.hid (below_trans B2.out hB3)
  clear hl hB3
  go_wp2
  go_ret2
  exact ⟨_, _, rfl, HL.out, B3.out, fun a e => Nat.le_trans B2.out.size (hlo a e)⟩
end Go.Proofs.YtpfgklkdldkajaaDoor
