/- 'two', 'small' of the statements on swagelaw7. Conditions: the code lies in memory. -/
import Derived.Test.YtjghibdlmmjobaaGreatDoorGZ15
namespace Go.Proofs.YtjghibdlmmjobaaGreatDoor
open Go.RowKit

set_option maxRecDepth 100000 in
set_option maxHeartbeats 1000000 in
theorem two7_any (w : World) : Calls Tryz.prog 79 #[] w (ProgL twoP 2 w) := by
  have HR := Lib.hid (two_reads w)
  have HB := Lib.hid (allocsL_below (twoO w.heap.size) w)
  go_enter Tryz.func79, Tryz.ntmps79
  go_wp2_with fail
  exact bodyPost_ret (v := .agg #[.slice (some ⟨w.heap.size + 3, 0, none⟩) 2 2]) (by simp [results, Tryz.results79, go_sem]) rfl ⟨_, rfl, HR.out, HB.out⟩
set_option maxRecDepth 100000 in
set_option maxHeartbeats 1000000 in
theorem small7_any (a l : Int) (A : Option Addr) (c : Nat) (code : List Ins) (w : World) (hr : ReadsC w A code) :
    Calls Tryz.prog 30 #[.int .i64 a, .int .i64 l, .slice A code.length c] w (ProgL [⟨a, l, code⟩] 1 w) := by
  have HR := Lib.hid (small_reads a l A c code w hr)
  have HB := Lib.hid (allocsL_below [.cells #[.slice (some ⟨w.heap.size + 1, 0, none⟩) 1 1] 24, .cells #[.int .i64 a, .int .i64 l, .slice A code.length c] 84] w)
  clear hr
  go_enter Tryz.func30, Tryz.ntmps30
  go_wp2_with fail
  exact bodyPost_ret (v := .agg #[.slice (some ⟨w.heap.size + 1, 0, none⟩) 1 1]) (by simp [results, Tryz.results30, go_sem]) rfl ⟨_, rfl, HR.out, HB.out⟩
end Go.Proofs.YtjghibdlmmjobaaGreatDoor
