/- The arena's 'told': of an error that wraps an Errno it tells the Errno. Condition: the variable errors.errorType holds the handle of 'error'. -/
import Derived.Test.YtjjnccllamgbaaaDoorAs
namespace Go.Proofs.YtjjnccllamgbaaaDoor
open Go.RowKit

/-- What 'told' makes of an error that wraps an Errno: its number. -/
theorem told_chain (m : Addr) (n : Int) (w : World) (hg : w.cell? ⟨0, 0, none⟩ = some (.iface 88 (.agg #[.pointer (some ⟨1, 63, none⟩)])))
    (hm : w.cell? m = some (.iface 24 (.int .i64 n))) :
    Calls Tryd.prog 26 #[.iface 68 (.pointer (some m))] w fun e w' => e = .returned (.int .i64 n) ∧ Below w.heap.size w w' := by
  have hlt : 0 < w.heap.size := World.block_lt_of_cell? w _ hg
  have hml : m.block < w.heap.size := World.block_lt_of_cell? w m hm
  have b1 : Below w.heap.size w (w.alloc (.cells #[.int .i64 0] 24)) := below_alloc (Below.refl _ _) _
  have hg1 := (b1.cell (p := ⟨0, 0, none⟩) hlt).trans hg
  have hm1 := (b1.cell hml).trans hm
  have A := Lib.hid (as_chain m ⟨w.heap.size, 0, none⟩ n (.int .i64 0) (w.alloc (.cells #[.int .i64 0] 24)) hg1 hm1 (by simp) (by simp))
  clear hg hm hg1 hm1
  go_enter Tryd.func26, Tryd.ntmps26
  go_wp2_with fail
  refine A.out.mono ?_
  rintro e w' ⟨rfl, w1, hB, hc, rfl⟩
  have hc2 : (w1.setCell ⟨w.heap.size, 0, none⟩ (.int .i64 n)).cell? ⟨w.heap.size, 0, none⟩ = some (.int .i64 n) := World.cell?_setCell_same (h := hc) ..
  have hB2 := Lib.hid (Below.setCell (below_trans b1 hB) (p := ⟨w.heap.size, 0, none⟩) (by simp) (.int .i64 n))
  clear b1 hB
  go_wp2
  go_ret
  exact ⟨rfl, hB2.out⟩
end Go.Proofs.YtjjnccllamgbaaaDoor
