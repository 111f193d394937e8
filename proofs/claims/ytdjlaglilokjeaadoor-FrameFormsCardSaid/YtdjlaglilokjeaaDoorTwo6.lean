/- 'two', 'small' of the statements on frames. Conditions: the code lies in memory. -/
import Derived.Test.YtdjlaglilokjeaaDoorLawKit
namespace Go.Proofs.YtdjlaglilokjeaaDoor
open Go.RowKit

set_option maxRecDepth 100000 in
set_option maxHeartbeats 1000000 in
theorem two_any (w : World) : Calls Tryd.prog 29 #[] w (ProgL twoP 2 w) := by
  have HR := Lib.hid (two_reads w)
  have HB := Lib.hid (allocsL_below (twoO w.heap.size) w)
  go_enter Tryd.func29, Tryd.ntmps29
  go_wp2_with fail
  exact bodyPost_ret (v := .agg #[.slice (some ⟨w.heap.size + 3, 0, none⟩) 2 2]) (by simp [results, Tryd.results29, go_sem]) rfl ⟨_, rfl, HR.out, HB.out⟩
set_option maxRecDepth 100000 in
set_option maxHeartbeats 1000000 in
theorem small_any (a l : Int) (A : Option Addr) (c : Nat) (code : List Ins) (w : World) (hr : ReadsC w A code) :
    Calls Tryd.prog 30 #[.int .i64 a, .int .i64 l, .slice A code.length c] w (ProgL [⟨a, l, code⟩] 1 w) := by
  have HR := Lib.hid (small_reads a l A c code w hr)
  have HB := Lib.hid (allocsL_below [.cells #[.slice (some ⟨w.heap.size + 1, 0, none⟩) 1 1] 24, .cells #[.int .i64 a, .int .i64 l, .slice A code.length c] 42] w)
  clear hr
  go_enter Tryd.func30, Tryd.ntmps30
  go_wp2_with fail
  exact bodyPost_ret (v := .agg #[.slice (some ⟨w.heap.size + 1, 0, none⟩) 1 1]) (by simp [results, Tryd.results30, go_sem]) rfl ⟨_, rfl, HR.out, HB.out⟩
end Go.Proofs.YtdjlaglilokjeaaDoor
