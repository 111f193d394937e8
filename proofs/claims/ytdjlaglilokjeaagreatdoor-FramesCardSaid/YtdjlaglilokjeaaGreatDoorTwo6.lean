/- 'two', 'small' of the statements on frames. Conditions: the code lies in memory. -/
import Derived.Test.YtdjlaglilokjeaaGreatDoorLawKit
namespace Go.Proofs.YtdjlaglilokjeaaGreatDoor
open Go.RowKit

set_option maxRecDepth 100000 in
set_option maxHeartbeats 1000000 in
theorem two_any (w : World) : Calls Tryz.prog 39 #[] w (ProgL twoP 2 w) := by
  have HR := Lib.hid (two_reads w)
  have HB := Lib.hid (allocsL_below (twoO w.heap.size) w)
  go_enter Tryz.func39, Tryz.ntmps39
  go_wp2_with fail
  exact bodyPost_ret (v := .agg #[.slice (some ⟨w.heap.size + 3, 0, none⟩) 2 2]) (by simp [results, Tryz.results39, go_sem]) rfl ⟨_, rfl, HR.out, HB.out⟩
end Go.Proofs.YtdjlaglilokjeaaGreatDoor
