/- The law FrameForms, walked: states that may not be, one thing at a time. Condition: errors.errorType is laid. -/
import Derived.Test.YtdjlaglilokjeaaDoorAwake6
import Derived.Test.YtdjlaglilokjeaaDoorNums
namespace Go.Proofs.YtdjlaglilokjeaaDoor
open Go.RowKit

theorem ff0 {d : Int} (h1 : 1 ≤ d) (_h2 : d ≤ 1024) : stateB twoP ⟨[⟨0, 3, [5], []⟩, ⟨1, 2, [5, 2], [5, 2]⟩], -d, [1], 0, 0⟩ = false := by
  unfold stateB
  rw [decide_eq_false (show ¬ (0 : Int) ≤ -d by omega)]
  simp
theorem ff1 {d : Int} (_h1 : 1 ≤ d) (_h2 : d ≤ 1024) : stateB twoP ⟨[⟨0, 3, [5], []⟩, ⟨1, 2, [5, 2], [5, 2]⟩], 100000, [1], 0, 0⟩ = false := by
  kernel_rfl
theorem ff2 {d : Int} (h1 : 1 ≤ d) (_h2 : d ≤ 1024) : stateB twoP ⟨[⟨0, 3, [5], []⟩, ⟨1, 2, [5, 2], [5, 2]⟩], 4, [2147483647 + d], 0, 0⟩ = false := by
  unfold stateB
  simp only [List.all_cons, show isNum (2147483647 + d) = false by unfold isNum; simp; omega]
  simp
theorem ff3 {d : Int} (_h1 : 1 ≤ d) (_h2 : d ≤ 1024) : stateB twoP ⟨[⟨0, 3, [5], []⟩, ⟨1, 2, [5, 2], [5, 2]⟩], 4, [1], 4, 0⟩ = false := by
  kernel_rfl
theorem ff4 {d : Int} (h1 : 1 ≤ d) (_h2 : d ≤ 1024) : stateB twoP ⟨[⟨0, 3, [5], []⟩, ⟨1, 2, [5, 2], [5, 2]⟩], 4, [1], 0, d⟩ = false := by
  unfold stateB
  simp only [decide_eq_false (show ¬ d = 0 by omega)]
  simp
theorem ff5 {d : Int} (_h1 : 1 ≤ d) (_h2 : d ≤ 1024) : stateB twoP ⟨[], 4, [1], 0, 0⟩ = false := by
  kernel_rfl
theorem ff6 {d : Int} (_h1 : 1 ≤ d) (_h2 : d ≤ 1024) : stateB twoP ⟨[⟨0, 3, [5], []⟩], 4, [1], 0, 0⟩ = false := by
  kernel_rfl
theorem ff7 {d : Int} (_h1 : 1 ≤ d) (_h2 : d ≤ 1024) : stateB twoP ⟨[⟨0, 3, [5], []⟩, ⟨0, 2, [5, 2], [5, 2]⟩], 4, [1], 0, 0⟩ = false := by
  kernel_rfl
theorem ff8 {d : Int} (h1 : 1 ≤ d) (_h2 : d ≤ 1024) : stateB twoP ⟨[⟨0, 3, [5], []⟩, ⟨1, 4 + d, [5, 2], [5, 2]⟩], 4, [1], 0, 0⟩ = false := by
  unfold stateB runsB
  rw [show runsFrom twoP [⟨0, 3, [5], []⟩, ⟨1, 4 + d, [5, 2], [5, 2]⟩] = false by
    unfold runsFrom runsFrom
    rw [frameB_no (heightAt_far (k := 1) (by kernel_rfl) (by simp [twoP]) (by simp [twoP, twoB]; omega))]
    simp]
  simp
theorem ff9 {d : Int} (h1 : 1 ≤ d) (_h2 : d ≤ 1024) : stateB twoP ⟨[⟨0, 3, [5], []⟩, ⟨1, -d, [5, 2], [5, 2]⟩], 4, [1], 0, 0⟩ = false := by
  unfold stateB runsB
  rw [show runsFrom twoP [⟨0, 3, [5], []⟩, ⟨1, -d, [5, 2], [5, 2]⟩] = false by
    unfold runsFrom runsFrom
    rw [frameB_no (heightAt_neg (by simp; omega))]
    simp]
  simp
theorem ff10 {d : Int} (_h1 : 1 ≤ d) (_h2 : d ≤ 1024) : stateB twoP ⟨[⟨0, 3, [5], []⟩, ⟨1, 2, [1], [5, 2]⟩], 4, [1], 0, 0⟩ = false := by
  kernel_rfl
theorem ff11 {d : Int} (_h1 : 1 ≤ d) (_h2 : d ≤ 1024) : stateB twoP ⟨[⟨0, 3, [5], []⟩, ⟨1, 2, [5, 2], [1]⟩], 4, [1], 0, 0⟩ = false := by
  kernel_rfl
theorem ff12 {d : Int} (h1 : 1 ≤ d) (_h2 : d ≤ 1024) : stateB twoP ⟨[⟨0, 3, [5], []⟩, ⟨1, 2, [5, 2], [2147483647 + d, 2]⟩], 4, [1], 0, 0⟩ = false := by
  unfold stateB runsB
  rw [show runsFrom twoP [⟨0, 3, [5], []⟩, ⟨1, 2, [5, 2], [2147483647 + d, 2]⟩] = false by
    unfold runsFrom runsFrom frameB
    simp only [List.all_cons, show isNum (2147483647 + d) = false by unfold isNum; simp; omega]
    simp]
  simp
theorem ff13 {d : Int} (_h1 : 1 ≤ d) (_h2 : d ≤ 1024) : stateB twoP ⟨[⟨0, 3, [5], [1]⟩, ⟨1, 2, [5, 2], [5, 2]⟩], 4, [1], 0, 0⟩ = false := by
  kernel_rfl
theorem ff14 {d : Int} (_h1 : 1 ≤ d) (_h2 : d ≤ 1024) : stateB twoP ⟨[⟨0, 4, [5], []⟩, ⟨1, 2, [5, 2], [5, 2]⟩], 4, [1], 0, 0⟩ = false := by
  kernel_rfl
theorem ff15 {d : Int} (h1 : 1 ≤ d) (_h2 : d ≤ 1024) : stateB twoP ⟨[⟨2 + d, 3, [5], []⟩, ⟨1, 2, [5, 2], [5, 2]⟩], 4, [1], 0, 0⟩ = false := by
  unfold stateB runsB
  rw [show runsFrom twoP [⟨2 + d, 3, [5], []⟩, ⟨1, 2, [5, 2], [5, 2]⟩] = false by
    unfold runsFrom lessB
    rw [frameB_no (heightAt_no (by simp [twoP]; omega))]
    simp]
  simp
theorem ff16 {d : Int} (h1 : 1 ≤ d) (_h2 : d ≤ 1024) : stateB twoP ⟨[], 4, [1], 4 + d, 0⟩ = false := by
  unfold stateB
  rw [if_neg (by simp; omega), decide_eq_false (show ¬ 4 + d ≤ 4 by omega)]
  simp
theorem ff_yes : stateB twoP ⟨[⟨0, 3, [5], []⟩, ⟨1, 2, [5, 2], [5, 2]⟩], 4, [1], 0, 0⟩ = true := by kernel_rfl
theorem two_frames {W : World} {g : Nat} {f0 f1 : Frm} {A1 A2 A3 A4 : Option Addr} {c1 c2 c3 c4 : Nat} (h : RowAt 61 g ([.int .i64 f0.fn, .int .i64 f0.pc, .slice A1 f0.locals.length c1, .slice A2 f0.stack.length c2, .int .i64 f1.fn, .int .i64 f1.pc, .slice A3 f1.locals.length c3, .slice A4 f1.stack.length c4]) W)
    (h1 : ReadsI W A1 f0.locals) (h2 : ReadsI W A2 f0.stack) (h3 : ReadsI W A3 f1.locals) (h4 : ReadsI W A4 f1.stack) : ReadsFr W (some ⟨g, 0, none⟩) [f0, f1] := by
  have c := fun k (hk : k < 8) => h.cell (k := k) hk
  refine ⟨by simp, fun _ => ⟨_, rfl, fun k hk => ?_⟩⟩
  match k, hk with
  | 0, _ => exact ⟨c 0 (by decide), c 1 (by decide), ⟨_, _, c 2 (by decide), h1⟩, _, _, c 3 (by decide), h2⟩
  | 1, _ => exact ⟨c 4 (by decide), c 5 (by decide), ⟨_, _, c 6 (by decide), h3⟩, _, _, c 7 (by decide), h4⟩
theorem one_frame {W : World} {g : Nat} {f0 f1 : Frm} {A1 A2 A3 A4 : Option Addr} {c1 c2 c3 c4 : Nat} (h : RowAt 61 g ([.int .i64 f0.fn, .int .i64 f0.pc, .slice A1 f0.locals.length c1, .slice A2 f0.stack.length c2, .int .i64 f1.fn, .int .i64 f1.pc, .slice A3 f1.locals.length c3, .slice A4 f1.stack.length c4]) W)
    (h1 : ReadsI W A1 f0.locals) (h2 : ReadsI W A2 f0.stack) : ReadsFr W (some ⟨g, 0, none⟩) [f0] := by
  have c := fun k (hk : k < 8) => h.cell (k := k) hk
  refine ⟨by simp, fun _ => ⟨_, rfl, fun k hk => ?_⟩⟩
  match k, hk with
  | 0, _ => exact ⟨c 0 (by decide), c 1 (by decide), ⟨_, _, c 2 (by decide), h1⟩, _, _, c 3 (by decide), h2⟩
set_option maxRecDepth 100000 in
set_option maxHeartbeats 16000000 in
theorem frameForms_yes (which x : Int) (W : World) (hl : Laid W) : Calls Tryd.prog 9 #[.int .i64 which, .int .i64 x] W (Ret (.bool true) W) := by
  have H := Lib.hid (awake6_any W hl)
  have HL := Lib.hid hl
  have B := Lib.hid (Below.refl W.heap.size W)
  obtain ⟨m, hm, m0, m1⟩ : ∃ m : Int, bits .and .i64 x 1023 = m ∧ 0 ≤ m ∧ m ≤ 1023 := ⟨x % 1024, i64_m1023 _, by omega, by omega⟩
  obtain ⟨k, hk, hk17⟩ := u64_remu which 17 (by decide)
  replace hk : (IntKind.u64.wrap which).tmod 17 = k := hk
  clear hl
  go_enter Tryd.func9, Tryd.ntmps9
  go_wp2_with fail
  (with_reducible refine H.out.mono ?_)
  rintro e w1 ⟨rfl, hB⟩
  clear H
  replace HL := Lib.hid (HL.out.below hB)
  replace B := Lib.hid (below_trans B.out hB)
  clear hB
  go_wp2_with fail
  (with_reducible refine (two_any _).mono ?_)
  rintro e w2 ⟨gp, rfl, hr, hB⟩
  replace HL := Lib.hid (HL.out.below hB)
  replace B := Lib.hid (below_trans B.out hB)
  clear hB
  have RP := Lib.hid (hr)
  clear hr
  have HL2 := Lib.hid HL.out
  have RP2 := Lib.hid RP.out
  have B2 := Lib.hid B.out
  have BW := Lib.hid (Below.refl w2.heap.size w2)
  have hb : Below w2.heap.size w2 (((((((w2.alloc (.cells #[.slice (some ⟨gp, 0, none⟩) 2 2] 24)).alloc (.cells #[.int .i64 5] 3)).alloc (.cells #[.int .i64 5, .int .i64 2] 3)).alloc (.cells #[.int .i64 5, .int .i64 2] 3)).alloc (.cells #[.int .i64 0, .int .i64 3, .slice (some ⟨w2.heap.size + 1, 0, none⟩) 1 1, .slice none 0 0, .int .i64 1, .int .i64 2, .slice (some ⟨w2.heap.size + 1 + 1, 0, none⟩) 2 2, .slice (some ⟨w2.heap.size + 1 + 1 + 1, 0, none⟩) 2 2] 61)).alloc (.cells #[.int .i64 1] 3)).alloc (.cells #[.slice (some ⟨w2.heap.size + 1 + 1 + 1 + 1, 0, none⟩) 2 2, .int .i64 4, .slice (some ⟨w2.heap.size + 1 + 1 + 1 + 1 + 1, 0, none⟩) 1 1, .int .i64 0, .int .i64 0] 56)) := allocsL_below [.cells #[.slice (some ⟨gp, 0, none⟩) 2 2] 24, .cells #[.int .i64 5] 3, .cells #[.int .i64 5, .int .i64 2] 3, .cells #[.int .i64 5, .int .i64 2] 3, .cells #[.int .i64 0, .int .i64 3, .slice (some ⟨w2.heap.size + 1, 0, none⟩) 1 1, .slice none 0 0, .int .i64 1, .int .i64 2, .slice (some ⟨w2.heap.size + 1 + 1, 0, none⟩) 2 2, .slice (some ⟨w2.heap.size + 1 + 1 + 1, 0, none⟩) 2 2] 61, .cells #[.int .i64 1] 3, .cells #[.slice (some ⟨w2.heap.size + 1 + 1 + 1 + 1, 0, none⟩) 2 2, .int .i64 4, .slice (some ⟨w2.heap.size + 1 + 1 + 1 + 1 + 1, 0, none⟩) 1 1, .int .i64 0, .int .i64 0] 56] w2
  have P := Lib.hid (show RowAt 24 (w2.heap.size) [.slice (some ⟨gp, 0, none⟩) 2 2] (((((((w2.alloc (.cells #[.slice (some ⟨gp, 0, none⟩) 2 2] 24)).alloc (.cells #[.int .i64 5] 3)).alloc (.cells #[.int .i64 5, .int .i64 2] 3)).alloc (.cells #[.int .i64 5, .int .i64 2] 3)).alloc (.cells #[.int .i64 0, .int .i64 3, .slice (some ⟨w2.heap.size + 1, 0, none⟩) 1 1, .slice none 0 0, .int .i64 1, .int .i64 2, .slice (some ⟨w2.heap.size + 1 + 1, 0, none⟩) 2 2, .slice (some ⟨w2.heap.size + 1 + 1 + 1, 0, none⟩) 2 2] 61)).alloc (.cells #[.int .i64 1] 3)).alloc (.cells #[.slice (some ⟨w2.heap.size + 1 + 1 + 1 + 1, 0, none⟩) 2 2, .int .i64 4, .slice (some ⟨w2.heap.size + 1 + 1 + 1 + 1 + 1, 0, none⟩) 1 1, .int .i64 0, .int .i64 0] 56)) from rowL (w := w2) (os := [.cells #[.slice (some ⟨gp, 0, none⟩) 2 2] 24, .cells #[.int .i64 5] 3, .cells #[.int .i64 5, .int .i64 2] 3, .cells #[.int .i64 5, .int .i64 2] 3, .cells #[.int .i64 0, .int .i64 3, .slice (some ⟨w2.heap.size + 1, 0, none⟩) 1 1, .slice none 0 0, .int .i64 1, .int .i64 2, .slice (some ⟨w2.heap.size + 1 + 1, 0, none⟩) 2 2, .slice (some ⟨w2.heap.size + 1 + 1 + 1, 0, none⟩) 2 2] 61, .cells #[.int .i64 1] 3, .cells #[.slice (some ⟨w2.heap.size + 1 + 1 + 1 + 1, 0, none⟩) 2 2, .int .i64 4, .slice (some ⟨w2.heap.size + 1 + 1 + 1 + 1 + 1, 0, none⟩) 1 1, .int .i64 0, .int .i64 0] 56]) (i := 0) (cs := [.slice (some ⟨gp, 0, none⟩) 2 2]) (by simp) rfl)
  have I1 := Lib.hid (show RowAt 3 (w2.heap.size + 1) [.int .i64 5] (((((((w2.alloc (.cells #[.slice (some ⟨gp, 0, none⟩) 2 2] 24)).alloc (.cells #[.int .i64 5] 3)).alloc (.cells #[.int .i64 5, .int .i64 2] 3)).alloc (.cells #[.int .i64 5, .int .i64 2] 3)).alloc (.cells #[.int .i64 0, .int .i64 3, .slice (some ⟨w2.heap.size + 1, 0, none⟩) 1 1, .slice none 0 0, .int .i64 1, .int .i64 2, .slice (some ⟨w2.heap.size + 1 + 1, 0, none⟩) 2 2, .slice (some ⟨w2.heap.size + 1 + 1 + 1, 0, none⟩) 2 2] 61)).alloc (.cells #[.int .i64 1] 3)).alloc (.cells #[.slice (some ⟨w2.heap.size + 1 + 1 + 1 + 1, 0, none⟩) 2 2, .int .i64 4, .slice (some ⟨w2.heap.size + 1 + 1 + 1 + 1 + 1, 0, none⟩) 1 1, .int .i64 0, .int .i64 0] 56)) from rowL (w := w2) (os := [.cells #[.slice (some ⟨gp, 0, none⟩) 2 2] 24, .cells #[.int .i64 5] 3, .cells #[.int .i64 5, .int .i64 2] 3, .cells #[.int .i64 5, .int .i64 2] 3, .cells #[.int .i64 0, .int .i64 3, .slice (some ⟨w2.heap.size + 1, 0, none⟩) 1 1, .slice none 0 0, .int .i64 1, .int .i64 2, .slice (some ⟨w2.heap.size + 1 + 1, 0, none⟩) 2 2, .slice (some ⟨w2.heap.size + 1 + 1 + 1, 0, none⟩) 2 2] 61, .cells #[.int .i64 1] 3, .cells #[.slice (some ⟨w2.heap.size + 1 + 1 + 1 + 1, 0, none⟩) 2 2, .int .i64 4, .slice (some ⟨w2.heap.size + 1 + 1 + 1 + 1 + 1, 0, none⟩) 1 1, .int .i64 0, .int .i64 0] 56]) (i := 1) (cs := [.int .i64 5]) (by simp) rfl)
  have I2 := Lib.hid (show RowAt 3 (w2.heap.size + 1 + 1) [.int .i64 5, .int .i64 2] (((((((w2.alloc (.cells #[.slice (some ⟨gp, 0, none⟩) 2 2] 24)).alloc (.cells #[.int .i64 5] 3)).alloc (.cells #[.int .i64 5, .int .i64 2] 3)).alloc (.cells #[.int .i64 5, .int .i64 2] 3)).alloc (.cells #[.int .i64 0, .int .i64 3, .slice (some ⟨w2.heap.size + 1, 0, none⟩) 1 1, .slice none 0 0, .int .i64 1, .int .i64 2, .slice (some ⟨w2.heap.size + 1 + 1, 0, none⟩) 2 2, .slice (some ⟨w2.heap.size + 1 + 1 + 1, 0, none⟩) 2 2] 61)).alloc (.cells #[.int .i64 1] 3)).alloc (.cells #[.slice (some ⟨w2.heap.size + 1 + 1 + 1 + 1, 0, none⟩) 2 2, .int .i64 4, .slice (some ⟨w2.heap.size + 1 + 1 + 1 + 1 + 1, 0, none⟩) 1 1, .int .i64 0, .int .i64 0] 56)) from rowL (w := w2) (os := [.cells #[.slice (some ⟨gp, 0, none⟩) 2 2] 24, .cells #[.int .i64 5] 3, .cells #[.int .i64 5, .int .i64 2] 3, .cells #[.int .i64 5, .int .i64 2] 3, .cells #[.int .i64 0, .int .i64 3, .slice (some ⟨w2.heap.size + 1, 0, none⟩) 1 1, .slice none 0 0, .int .i64 1, .int .i64 2, .slice (some ⟨w2.heap.size + 1 + 1, 0, none⟩) 2 2, .slice (some ⟨w2.heap.size + 1 + 1 + 1, 0, none⟩) 2 2] 61, .cells #[.int .i64 1] 3, .cells #[.slice (some ⟨w2.heap.size + 1 + 1 + 1 + 1, 0, none⟩) 2 2, .int .i64 4, .slice (some ⟨w2.heap.size + 1 + 1 + 1 + 1 + 1, 0, none⟩) 1 1, .int .i64 0, .int .i64 0] 56]) (i := 2) (cs := [.int .i64 5, .int .i64 2]) (by simp) rfl)
  have I3 := Lib.hid (show RowAt 3 (w2.heap.size + 1 + 1 + 1) [.int .i64 5, .int .i64 2] (((((((w2.alloc (.cells #[.slice (some ⟨gp, 0, none⟩) 2 2] 24)).alloc (.cells #[.int .i64 5] 3)).alloc (.cells #[.int .i64 5, .int .i64 2] 3)).alloc (.cells #[.int .i64 5, .int .i64 2] 3)).alloc (.cells #[.int .i64 0, .int .i64 3, .slice (some ⟨w2.heap.size + 1, 0, none⟩) 1 1, .slice none 0 0, .int .i64 1, .int .i64 2, .slice (some ⟨w2.heap.size + 1 + 1, 0, none⟩) 2 2, .slice (some ⟨w2.heap.size + 1 + 1 + 1, 0, none⟩) 2 2] 61)).alloc (.cells #[.int .i64 1] 3)).alloc (.cells #[.slice (some ⟨w2.heap.size + 1 + 1 + 1 + 1, 0, none⟩) 2 2, .int .i64 4, .slice (some ⟨w2.heap.size + 1 + 1 + 1 + 1 + 1, 0, none⟩) 1 1, .int .i64 0, .int .i64 0] 56)) from rowL (w := w2) (os := [.cells #[.slice (some ⟨gp, 0, none⟩) 2 2] 24, .cells #[.int .i64 5] 3, .cells #[.int .i64 5, .int .i64 2] 3, .cells #[.int .i64 5, .int .i64 2] 3, .cells #[.int .i64 0, .int .i64 3, .slice (some ⟨w2.heap.size + 1, 0, none⟩) 1 1, .slice none 0 0, .int .i64 1, .int .i64 2, .slice (some ⟨w2.heap.size + 1 + 1, 0, none⟩) 2 2, .slice (some ⟨w2.heap.size + 1 + 1 + 1, 0, none⟩) 2 2] 61, .cells #[.int .i64 1] 3, .cells #[.slice (some ⟨w2.heap.size + 1 + 1 + 1 + 1, 0, none⟩) 2 2, .int .i64 4, .slice (some ⟨w2.heap.size + 1 + 1 + 1 + 1 + 1, 0, none⟩) 1 1, .int .i64 0, .int .i64 0] 56]) (i := 3) (cs := [.int .i64 5, .int .i64 2]) (by simp) rfl)
  have FR := Lib.hid (show RowAt 61 (w2.heap.size + 1 + 1 + 1 + 1) [.int .i64 0, .int .i64 3, .slice (some ⟨w2.heap.size + 1, 0, none⟩) 1 1, .slice none 0 0, .int .i64 1, .int .i64 2, .slice (some ⟨w2.heap.size + 1 + 1, 0, none⟩) 2 2, .slice (some ⟨w2.heap.size + 1 + 1 + 1, 0, none⟩) 2 2] (((((((w2.alloc (.cells #[.slice (some ⟨gp, 0, none⟩) 2 2] 24)).alloc (.cells #[.int .i64 5] 3)).alloc (.cells #[.int .i64 5, .int .i64 2] 3)).alloc (.cells #[.int .i64 5, .int .i64 2] 3)).alloc (.cells #[.int .i64 0, .int .i64 3, .slice (some ⟨w2.heap.size + 1, 0, none⟩) 1 1, .slice none 0 0, .int .i64 1, .int .i64 2, .slice (some ⟨w2.heap.size + 1 + 1, 0, none⟩) 2 2, .slice (some ⟨w2.heap.size + 1 + 1 + 1, 0, none⟩) 2 2] 61)).alloc (.cells #[.int .i64 1] 3)).alloc (.cells #[.slice (some ⟨w2.heap.size + 1 + 1 + 1 + 1, 0, none⟩) 2 2, .int .i64 4, .slice (some ⟨w2.heap.size + 1 + 1 + 1 + 1 + 1, 0, none⟩) 1 1, .int .i64 0, .int .i64 0] 56)) from rowL (w := w2) (os := [.cells #[.slice (some ⟨gp, 0, none⟩) 2 2] 24, .cells #[.int .i64 5] 3, .cells #[.int .i64 5, .int .i64 2] 3, .cells #[.int .i64 5, .int .i64 2] 3, .cells #[.int .i64 0, .int .i64 3, .slice (some ⟨w2.heap.size + 1, 0, none⟩) 1 1, .slice none 0 0, .int .i64 1, .int .i64 2, .slice (some ⟨w2.heap.size + 1 + 1, 0, none⟩) 2 2, .slice (some ⟨w2.heap.size + 1 + 1 + 1, 0, none⟩) 2 2] 61, .cells #[.int .i64 1] 3, .cells #[.slice (some ⟨w2.heap.size + 1 + 1 + 1 + 1, 0, none⟩) 2 2, .int .i64 4, .slice (some ⟨w2.heap.size + 1 + 1 + 1 + 1 + 1, 0, none⟩) 1 1, .int .i64 0, .int .i64 0] 56]) (i := 4) (cs := [.int .i64 0, .int .i64 3, .slice (some ⟨w2.heap.size + 1, 0, none⟩) 1 1, .slice none 0 0, .int .i64 1, .int .i64 2, .slice (some ⟨w2.heap.size + 1 + 1, 0, none⟩) 2 2, .slice (some ⟨w2.heap.size + 1 + 1 + 1, 0, none⟩) 2 2]) (by simp) rfl)
  have O := Lib.hid (show RowAt 3 (w2.heap.size + 1 + 1 + 1 + 1 + 1) [.int .i64 1] (((((((w2.alloc (.cells #[.slice (some ⟨gp, 0, none⟩) 2 2] 24)).alloc (.cells #[.int .i64 5] 3)).alloc (.cells #[.int .i64 5, .int .i64 2] 3)).alloc (.cells #[.int .i64 5, .int .i64 2] 3)).alloc (.cells #[.int .i64 0, .int .i64 3, .slice (some ⟨w2.heap.size + 1, 0, none⟩) 1 1, .slice none 0 0, .int .i64 1, .int .i64 2, .slice (some ⟨w2.heap.size + 1 + 1, 0, none⟩) 2 2, .slice (some ⟨w2.heap.size + 1 + 1 + 1, 0, none⟩) 2 2] 61)).alloc (.cells #[.int .i64 1] 3)).alloc (.cells #[.slice (some ⟨w2.heap.size + 1 + 1 + 1 + 1, 0, none⟩) 2 2, .int .i64 4, .slice (some ⟨w2.heap.size + 1 + 1 + 1 + 1 + 1, 0, none⟩) 1 1, .int .i64 0, .int .i64 0] 56)) from rowL (w := w2) (os := [.cells #[.slice (some ⟨gp, 0, none⟩) 2 2] 24, .cells #[.int .i64 5] 3, .cells #[.int .i64 5, .int .i64 2] 3, .cells #[.int .i64 5, .int .i64 2] 3, .cells #[.int .i64 0, .int .i64 3, .slice (some ⟨w2.heap.size + 1, 0, none⟩) 1 1, .slice none 0 0, .int .i64 1, .int .i64 2, .slice (some ⟨w2.heap.size + 1 + 1, 0, none⟩) 2 2, .slice (some ⟨w2.heap.size + 1 + 1 + 1, 0, none⟩) 2 2] 61, .cells #[.int .i64 1] 3, .cells #[.slice (some ⟨w2.heap.size + 1 + 1 + 1 + 1, 0, none⟩) 2 2, .int .i64 4, .slice (some ⟨w2.heap.size + 1 + 1 + 1 + 1 + 1, 0, none⟩) 1 1, .int .i64 0, .int .i64 0] 56]) (i := 5) (cs := [.int .i64 1]) (by simp) rfl)
  have S := Lib.hid (show RowAt 56 (w2.heap.size + 1 + 1 + 1 + 1 + 1 + 1) [.slice (some ⟨w2.heap.size + 1 + 1 + 1 + 1, 0, none⟩) 2 2, .int .i64 4, .slice (some ⟨w2.heap.size + 1 + 1 + 1 + 1 + 1, 0, none⟩) 1 1, .int .i64 0, .int .i64 0] (((((((w2.alloc (.cells #[.slice (some ⟨gp, 0, none⟩) 2 2] 24)).alloc (.cells #[.int .i64 5] 3)).alloc (.cells #[.int .i64 5, .int .i64 2] 3)).alloc (.cells #[.int .i64 5, .int .i64 2] 3)).alloc (.cells #[.int .i64 0, .int .i64 3, .slice (some ⟨w2.heap.size + 1, 0, none⟩) 1 1, .slice none 0 0, .int .i64 1, .int .i64 2, .slice (some ⟨w2.heap.size + 1 + 1, 0, none⟩) 2 2, .slice (some ⟨w2.heap.size + 1 + 1 + 1, 0, none⟩) 2 2] 61)).alloc (.cells #[.int .i64 1] 3)).alloc (.cells #[.slice (some ⟨w2.heap.size + 1 + 1 + 1 + 1, 0, none⟩) 2 2, .int .i64 4, .slice (some ⟨w2.heap.size + 1 + 1 + 1 + 1 + 1, 0, none⟩) 1 1, .int .i64 0, .int .i64 0] 56)) from rowL (w := w2) (os := [.cells #[.slice (some ⟨gp, 0, none⟩) 2 2] 24, .cells #[.int .i64 5] 3, .cells #[.int .i64 5, .int .i64 2] 3, .cells #[.int .i64 5, .int .i64 2] 3, .cells #[.int .i64 0, .int .i64 3, .slice (some ⟨w2.heap.size + 1, 0, none⟩) 1 1, .slice none 0 0, .int .i64 1, .int .i64 2, .slice (some ⟨w2.heap.size + 1 + 1, 0, none⟩) 2 2, .slice (some ⟨w2.heap.size + 1 + 1 + 1, 0, none⟩) 2 2] 61, .cells #[.int .i64 1] 3, .cells #[.slice (some ⟨w2.heap.size + 1 + 1 + 1 + 1, 0, none⟩) 2 2, .int .i64 4, .slice (some ⟨w2.heap.size + 1 + 1 + 1 + 1 + 1, 0, none⟩) 1 1, .int .i64 0, .int .i64 0] 56]) (i := 6) (cs := [.slice (some ⟨w2.heap.size + 1 + 1 + 1 + 1, 0, none⟩) 2 2, .int .i64 4, .slice (some ⟨w2.heap.size + 1 + 1 + 1 + 1 + 1, 0, none⟩) 1 1, .int .i64 0, .int .i64 0]) (by simp) rfl)
  clear hb
  replace BW := Lib.hid (show Below w2.heap.size w2 (((((((w2.alloc (.cells #[.slice (some ⟨gp, 0, none⟩) 2 2] 24)).alloc (.cells #[.int .i64 5] 3)).alloc (.cells #[.int .i64 5, .int .i64 2] 3)).alloc (.cells #[.int .i64 5, .int .i64 2] 3)).alloc (.cells #[.int .i64 0, .int .i64 3, .slice (some ⟨w2.heap.size + 1, 0, none⟩) 1 1, .slice none 0 0, .int .i64 1, .int .i64 2, .slice (some ⟨w2.heap.size + 1 + 1, 0, none⟩) 2 2, .slice (some ⟨w2.heap.size + 1 + 1 + 1, 0, none⟩) 2 2] 61)).alloc (.cells #[.int .i64 1] 3)).alloc (.cells #[.slice (some ⟨w2.heap.size + 1 + 1 + 1 + 1, 0, none⟩) 2 2, .int .i64 4, .slice (some ⟨w2.heap.size + 1 + 1 + 1 + 1 + 1, 0, none⟩) 1 1, .int .i64 0, .int .i64 0] 56)) from allocsL_below [.cells #[.slice (some ⟨gp, 0, none⟩) 2 2] 24, .cells #[.int .i64 5] 3, .cells #[.int .i64 5, .int .i64 2] 3, .cells #[.int .i64 5, .int .i64 2] 3, .cells #[.int .i64 0, .int .i64 3, .slice (some ⟨w2.heap.size + 1, 0, none⟩) 1 1, .slice none 0 0, .int .i64 1, .int .i64 2, .slice (some ⟨w2.heap.size + 1 + 1, 0, none⟩) 2 2, .slice (some ⟨w2.heap.size + 1 + 1 + 1, 0, none⟩) 2 2] 61, .cells #[.int .i64 1] 3, .cells #[.slice (some ⟨w2.heap.size + 1 + 1 + 1 + 1, 0, none⟩) 2 2, .int .i64 4, .slice (some ⟨w2.heap.size + 1 + 1 + 1 + 1 + 1, 0, none⟩) 1 1, .int .i64 0, .int .i64 0] 56] w2)
  have H := Lib.hid (state_any twoP (some ⟨gp, 0, none⟩) (some ⟨w2.heap.size + 1 + 1 + 1 + 1, 0, none⟩) (some ⟨w2.heap.size + 1 + 1 + 1 + 1 + 1, 0, none⟩) 2 2 1 ⟨[⟨0, 3, [5], []⟩, ⟨1, 2, [5, 2], [5, 2]⟩], 4, [1], 0, 0⟩ (((((((w2.alloc (.cells #[.slice (some ⟨gp, 0, none⟩) 2 2] 24)).alloc (.cells #[.int .i64 5] 3)).alloc (.cells #[.int .i64 5, .int .i64 2] 3)).alloc (.cells #[.int .i64 5, .int .i64 2] 3)).alloc (.cells #[.int .i64 0, .int .i64 3, .slice (some ⟨w2.heap.size + 1, 0, none⟩) 1 1, .slice none 0 0, .int .i64 1, .int .i64 2, .slice (some ⟨w2.heap.size + 1 + 1, 0, none⟩) 2 2, .slice (some ⟨w2.heap.size + 1 + 1 + 1, 0, none⟩) 2 2] 61)).alloc (.cells #[.int .i64 1] 3)).alloc (.cells #[.slice (some ⟨w2.heap.size + 1 + 1 + 1 + 1, 0, none⟩) 2 2, .int .i64 4, .slice (some ⟨w2.heap.size + 1 + 1 + 1 + 1 + 1, 0, none⟩) 1 1, .int .i64 0, .int .i64 0] 56)) (HL2.out.below BW.out) (RP2.out.below BW.out) (two_frames (f0 := ⟨0, 3, [5], []⟩) (f1 := ⟨1, 2, [5, 2], [5, 2]⟩) FR.out (intsL (xs := [5]) I1.out (by simp)) (reads_nil _ _) (intsL (xs := [5, 2]) I2.out (by simp)) (intsL (xs := [5, 2]) I3.out (by simp))) (Nat.le_refl _) (intsL (xs := [1]) O.out (by simp)))
  rw [ff_yes, twoP_len] at H
  unfold sttV at H
  simp only [len1, len2] at H
  have c0 := P.out.cell (k := 0) (by simp)
  simp only [List.getElem_cons_zero] at c0
  have c1 := S.out.cell (k := 0) (by simp)
  simp only [List.getElem_cons_zero] at c1
  have c2 := S.out.cell (k := 1) (by simp)
  simp only [List.getElem_cons_zero, List.getElem_cons_succ] at c2
  have c3 := S.out.cell (k := 2) (by simp)
  simp only [List.getElem_cons_zero, List.getElem_cons_succ] at c3
  have c4 := S.out.cell (k := 3) (by simp)
  simp only [List.getElem_cons_zero, List.getElem_cons_succ] at c4
  have c5 := S.out.cell (k := 4) (by simp)
  simp only [List.getElem_cons_zero, List.getElem_cons_succ] at c5
  go_wp2_with fail
  (with_reducible refine H.out.mono ?_)
  rintro e w3 ⟨rfl, hB⟩
  clear H c0 c1 c2 c3 c4 c5
  replace P := Lib.hid (P.out.below hB)
  replace I1 := Lib.hid (I1.out.below hB)
  replace I2 := Lib.hid (I2.out.below hB)
  replace I3 := Lib.hid (I3.out.below hB)
  replace FR := Lib.hid (FR.out.below hB)
  replace O := Lib.hid (O.out.below hB)
  replace S := Lib.hid (S.out.below hB)
  replace BW := Lib.hid (below_trans BW.out hB)
  clear hB
  have hd1 : 1 ≤ 1 + m := by omega
  have hd2 : 1 + m ≤ 1024 := by omega
  obtain rfl | rfl | rfl | rfl | rfl | rfl | rfl | rfl | rfl | rfl | rfl | rfl | rfl | rfl | rfl | rfl | rfl : k = 0 ∨ k = 1 ∨ k = 2 ∨ k = 3 ∨ k = 4 ∨ k = 5 ∨ k = 6 ∨ k = 7 ∨ k = 8 ∨ k = 9 ∨ k = 10 ∨ k = 11 ∨ k = 12 ∨ k = 13 ∨ k = 14 ∨ k = 15 ∨ k = 16 := by omega
  · skip
    have c6 := S.out.cell (k := 0) (by simp)
    simp only [List.getElem_cons_zero] at c6
    have z7 := S.out.free 0
    have c8 := S.out.cell (k := 1) (by simp)
    simp only [List.getElem_cons_zero, List.getElem_cons_succ] at c8
    have z9 := S.out.free 1
    have c10 := S.out.cell (k := 2) (by simp)
    simp only [List.getElem_cons_zero, List.getElem_cons_succ] at c10
    have z11 := S.out.free 2
    have c12 := S.out.cell (k := 3) (by simp)
    simp only [List.getElem_cons_zero, List.getElem_cons_succ] at c12
    have z13 := S.out.free 3
    have c14 := S.out.cell (k := 4) (by simp)
    simp only [List.getElem_cons_zero, List.getElem_cons_succ] at c14
    have z15 := S.out.free 4
    have c16 := FR.out.cell (k := 0) (by simp)
    simp only [List.getElem_cons_zero] at c16
    have z17 := FR.out.free 0
    have c18 := FR.out.cell (k := 1) (by simp)
    simp only [List.getElem_cons_zero, List.getElem_cons_succ] at c18
    have z19 := FR.out.free 1
    have c20 := FR.out.cell (k := 2) (by simp)
    simp only [List.getElem_cons_zero, List.getElem_cons_succ] at c20
    have z21 := FR.out.free 2
    have c22 := FR.out.cell (k := 3) (by simp)
    simp only [List.getElem_cons_zero, List.getElem_cons_succ] at c22
    have z23 := FR.out.free 3
    have c24 := FR.out.cell (k := 4) (by simp)
    simp only [List.getElem_cons_zero, List.getElem_cons_succ] at c24
    have z25 := FR.out.free 4
    have c26 := FR.out.cell (k := 5) (by simp)
    simp only [List.getElem_cons_zero, List.getElem_cons_succ] at c26
    have z27 := FR.out.free 5
    have c28 := FR.out.cell (k := 6) (by simp)
    simp only [List.getElem_cons_zero, List.getElem_cons_succ] at c28
    have z29 := FR.out.free 6
    have c30 := FR.out.cell (k := 7) (by simp)
    simp only [List.getElem_cons_zero, List.getElem_cons_succ] at c30
    have z31 := FR.out.free 7
    have c32 := O.out.cell (k := 0) (by simp)
    simp only [List.getElem_cons_zero] at c32
    have z33 := O.out.free 0
    have c34 := I3.out.cell (k := 0) (by simp)
    simp only [List.getElem_cons_zero] at c34
    have z35 := I3.out.free 0
    have YW := BW.out.size
    have rP := P.out
    have rI1 := I1.out
    have rI2 := I2.out
    have rI3 := I3.out
    have rFR := FR.out
    have rO := O.out
    have rS := S.out
    have bw := BW.out
    have kp : Keeps (w2.heap.size + 1 + 1 + 1 + 1 + 1 + 1) w3 (w3.setCell ⟨w2.heap.size + 1 + 1 + 1 + 1 + 1 + 1, 1, none⟩ (.int .i64 (-(1 + m)))) := Keeps.put (Keeps.refl _ _) _ _
    replace rP := rP.keeps kp (by omega)
    replace rI1 := rI1.keeps kp (by omega)
    replace rI2 := rI2.keeps kp (by omega)
    replace rI3 := rI3.keeps kp (by omega)
    replace rFR := rFR.keeps kp (by omega)
    replace rO := rO.keeps kp (by omega)
    replace rS := rS.put 1 (.int .i64 (-(1 + m)))
    simp only [List.set_cons_zero, List.set_cons_succ] at rS
    replace bw := bw.setCell (p := ⟨w2.heap.size + 1 + 1 + 1 + 1 + 1 + 1, 1, none⟩) (by simp; omega) (.int .i64 (-(1 + m)))
    clear kp
    have H := Lib.hid (state_any twoP (some ⟨gp, 0, none⟩) (some ⟨w2.heap.size + 1 + 1 + 1 + 1, 0, none⟩) (some ⟨w2.heap.size + 1 + 1 + 1 + 1 + 1, 0, none⟩) 2 2 1 ⟨[⟨0, 3, [5], []⟩, ⟨1, 2, [5, 2], [5, 2]⟩], -(1 + m), [1], 0, 0⟩ (w3.setCell ⟨w2.heap.size + 1 + 1 + 1 + 1 + 1 + 1, 1, none⟩ (.int .i64 (-(1 + m)))) (HL2.out.below bw) (RP2.out.below bw) (two_frames (f0 := ⟨0, 3, [5], []⟩) (f1 := ⟨1, 2, [5, 2], [5, 2]⟩) rFR (intsL (xs := [5]) rI1 (by simp)) (reads_nil _ _) (intsL (xs := [5, 2]) rI2 (by simp)) (intsL (xs := [5, 2]) rI3 (by simp))) (by simp) (intsL (xs := [1]) rO (by simp)))
    rw [ff0 hd1 hd2, twoP_len] at H
    unfold sttV at H
    simp only [len1, len2] at H
    have BF := Lib.hid (below_trans B2.out bw)
    have eP0 := rP.cell (k := 0) (by simp)
    simp only [List.getElem_cons_zero] at eP0
    have eS0 := rS.cell (k := 0) (by simp)
    simp only [List.getElem_cons_zero] at eS0
    have eS1 := rS.cell (k := 1) (by simp)
    simp only [List.getElem_cons_zero, List.getElem_cons_succ] at eS1
    have eS2 := rS.cell (k := 2) (by simp)
    simp only [List.getElem_cons_zero, List.getElem_cons_succ] at eS2
    have eS3 := rS.cell (k := 3) (by simp)
    simp only [List.getElem_cons_zero, List.getElem_cons_succ] at eS3
    have eS4 := rS.cell (k := 4) (by simp)
    simp only [List.getElem_cons_zero, List.getElem_cons_succ] at eS4
    clear bw rP rI1 rI2 rI3 rFR rO rS
    go_wp2_with fail
    (with_reducible refine H.out.mono ?_)
    rintro e w9 ⟨rfl, hb9⟩
    go_wp2_with fail
    go_ret
    exact ⟨rfl, below_trans BF.out hb9⟩
  · skip
    have c36 := S.out.cell (k := 0) (by simp)
    simp only [List.getElem_cons_zero] at c36
    have z37 := S.out.free 0
    have c38 := S.out.cell (k := 1) (by simp)
    simp only [List.getElem_cons_zero, List.getElem_cons_succ] at c38
    have z39 := S.out.free 1
    have c40 := S.out.cell (k := 2) (by simp)
    simp only [List.getElem_cons_zero, List.getElem_cons_succ] at c40
    have z41 := S.out.free 2
    have c42 := S.out.cell (k := 3) (by simp)
    simp only [List.getElem_cons_zero, List.getElem_cons_succ] at c42
    have z43 := S.out.free 3
    have c44 := S.out.cell (k := 4) (by simp)
    simp only [List.getElem_cons_zero, List.getElem_cons_succ] at c44
    have z45 := S.out.free 4
    have c46 := FR.out.cell (k := 0) (by simp)
    simp only [List.getElem_cons_zero] at c46
    have z47 := FR.out.free 0
    have c48 := FR.out.cell (k := 1) (by simp)
    simp only [List.getElem_cons_zero, List.getElem_cons_succ] at c48
    have z49 := FR.out.free 1
    have c50 := FR.out.cell (k := 2) (by simp)
    simp only [List.getElem_cons_zero, List.getElem_cons_succ] at c50
    have z51 := FR.out.free 2
    have c52 := FR.out.cell (k := 3) (by simp)
    simp only [List.getElem_cons_zero, List.getElem_cons_succ] at c52
    have z53 := FR.out.free 3
    have c54 := FR.out.cell (k := 4) (by simp)
    simp only [List.getElem_cons_zero, List.getElem_cons_succ] at c54
    have z55 := FR.out.free 4
    have c56 := FR.out.cell (k := 5) (by simp)
    simp only [List.getElem_cons_zero, List.getElem_cons_succ] at c56
    have z57 := FR.out.free 5
    have c58 := FR.out.cell (k := 6) (by simp)
    simp only [List.getElem_cons_zero, List.getElem_cons_succ] at c58
    have z59 := FR.out.free 6
    have c60 := FR.out.cell (k := 7) (by simp)
    simp only [List.getElem_cons_zero, List.getElem_cons_succ] at c60
    have z61 := FR.out.free 7
    have c62 := O.out.cell (k := 0) (by simp)
    simp only [List.getElem_cons_zero] at c62
    have z63 := O.out.free 0
    have c64 := I3.out.cell (k := 0) (by simp)
    simp only [List.getElem_cons_zero] at c64
    have z65 := I3.out.free 0
    have YW := BW.out.size
    have rP := P.out
    have rI1 := I1.out
    have rI2 := I2.out
    have rI3 := I3.out
    have rFR := FR.out
    have rO := O.out
    have rS := S.out
    have bw := BW.out
    have kp : Keeps (w2.heap.size + 1 + 1 + 1 + 1 + 1 + 1) w3 (w3.setCell ⟨w2.heap.size + 1 + 1 + 1 + 1 + 1 + 1, 1, none⟩ (.int .i64 100000)) := Keeps.put (Keeps.refl _ _) _ _
    replace rP := rP.keeps kp (by omega)
    replace rI1 := rI1.keeps kp (by omega)
    replace rI2 := rI2.keeps kp (by omega)
    replace rI3 := rI3.keeps kp (by omega)
    replace rFR := rFR.keeps kp (by omega)
    replace rO := rO.keeps kp (by omega)
    replace rS := rS.put 1 (.int .i64 100000)
    simp only [List.set_cons_zero, List.set_cons_succ] at rS
    replace bw := bw.setCell (p := ⟨w2.heap.size + 1 + 1 + 1 + 1 + 1 + 1, 1, none⟩) (by simp; omega) (.int .i64 100000)
    clear kp
    have H := Lib.hid (state_any twoP (some ⟨gp, 0, none⟩) (some ⟨w2.heap.size + 1 + 1 + 1 + 1, 0, none⟩) (some ⟨w2.heap.size + 1 + 1 + 1 + 1 + 1, 0, none⟩) 2 2 1 ⟨[⟨0, 3, [5], []⟩, ⟨1, 2, [5, 2], [5, 2]⟩], 100000, [1], 0, 0⟩ (w3.setCell ⟨w2.heap.size + 1 + 1 + 1 + 1 + 1 + 1, 1, none⟩ (.int .i64 100000)) (HL2.out.below bw) (RP2.out.below bw) (two_frames (f0 := ⟨0, 3, [5], []⟩) (f1 := ⟨1, 2, [5, 2], [5, 2]⟩) rFR (intsL (xs := [5]) rI1 (by simp)) (reads_nil _ _) (intsL (xs := [5, 2]) rI2 (by simp)) (intsL (xs := [5, 2]) rI3 (by simp))) (by simp) (intsL (xs := [1]) rO (by simp)))
    rw [ff1 hd1 hd2, twoP_len] at H
    unfold sttV at H
    simp only [len1, len2] at H
    have BF := Lib.hid (below_trans B2.out bw)
    have eP0 := rP.cell (k := 0) (by simp)
    simp only [List.getElem_cons_zero] at eP0
    have eS0 := rS.cell (k := 0) (by simp)
    simp only [List.getElem_cons_zero] at eS0
    have eS1 := rS.cell (k := 1) (by simp)
    simp only [List.getElem_cons_zero, List.getElem_cons_succ] at eS1
    have eS2 := rS.cell (k := 2) (by simp)
    simp only [List.getElem_cons_zero, List.getElem_cons_succ] at eS2
    have eS3 := rS.cell (k := 3) (by simp)
    simp only [List.getElem_cons_zero, List.getElem_cons_succ] at eS3
    have eS4 := rS.cell (k := 4) (by simp)
    simp only [List.getElem_cons_zero, List.getElem_cons_succ] at eS4
    clear bw rP rI1 rI2 rI3 rFR rO rS
    go_wp2_with fail
    (with_reducible refine H.out.mono ?_)
    rintro e w9 ⟨rfl, hb9⟩
    go_wp2_with fail
    go_ret
    exact ⟨rfl, below_trans BF.out hb9⟩
  · skip
    have c66 := S.out.cell (k := 0) (by simp)
    simp only [List.getElem_cons_zero] at c66
    have z67 := S.out.free 0
    have c68 := S.out.cell (k := 1) (by simp)
    simp only [List.getElem_cons_zero, List.getElem_cons_succ] at c68
    have z69 := S.out.free 1
    have c70 := S.out.cell (k := 2) (by simp)
    simp only [List.getElem_cons_zero, List.getElem_cons_succ] at c70
    have z71 := S.out.free 2
    have c72 := S.out.cell (k := 3) (by simp)
    simp only [List.getElem_cons_zero, List.getElem_cons_succ] at c72
    have z73 := S.out.free 3
    have c74 := S.out.cell (k := 4) (by simp)
    simp only [List.getElem_cons_zero, List.getElem_cons_succ] at c74
    have z75 := S.out.free 4
    have c76 := FR.out.cell (k := 0) (by simp)
    simp only [List.getElem_cons_zero] at c76
    have z77 := FR.out.free 0
    have c78 := FR.out.cell (k := 1) (by simp)
    simp only [List.getElem_cons_zero, List.getElem_cons_succ] at c78
    have z79 := FR.out.free 1
    have c80 := FR.out.cell (k := 2) (by simp)
    simp only [List.getElem_cons_zero, List.getElem_cons_succ] at c80
    have z81 := FR.out.free 2
    have c82 := FR.out.cell (k := 3) (by simp)
    simp only [List.getElem_cons_zero, List.getElem_cons_succ] at c82
    have z83 := FR.out.free 3
    have c84 := FR.out.cell (k := 4) (by simp)
    simp only [List.getElem_cons_zero, List.getElem_cons_succ] at c84
    have z85 := FR.out.free 4
    have c86 := FR.out.cell (k := 5) (by simp)
    simp only [List.getElem_cons_zero, List.getElem_cons_succ] at c86
    have z87 := FR.out.free 5
    have c88 := FR.out.cell (k := 6) (by simp)
    simp only [List.getElem_cons_zero, List.getElem_cons_succ] at c88
    have z89 := FR.out.free 6
    have c90 := FR.out.cell (k := 7) (by simp)
    simp only [List.getElem_cons_zero, List.getElem_cons_succ] at c90
    have z91 := FR.out.free 7
    have c92 := O.out.cell (k := 0) (by simp)
    simp only [List.getElem_cons_zero] at c92
    have z93 := O.out.free 0
    have c94 := I3.out.cell (k := 0) (by simp)
    simp only [List.getElem_cons_zero] at c94
    have z95 := I3.out.free 0
    have YW := BW.out.size
    have rP := P.out
    have rI1 := I1.out
    have rI2 := I2.out
    have rI3 := I3.out
    have rFR := FR.out
    have rO := O.out
    have rS := S.out
    have bw := BW.out
    have kp : Keeps (w2.heap.size + 1 + 1 + 1 + 1 + 1) w3 (w3.setCell ⟨w2.heap.size + 1 + 1 + 1 + 1 + 1, 0, none⟩ (.int .i64 (2147483647 + (1 + m)))) := Keeps.put (Keeps.refl _ _) _ _
    replace rP := rP.keeps kp (by omega)
    replace rI1 := rI1.keeps kp (by omega)
    replace rI2 := rI2.keeps kp (by omega)
    replace rI3 := rI3.keeps kp (by omega)
    replace rFR := rFR.keeps kp (by omega)
    replace rO := rO.put 0 (.int .i64 (2147483647 + (1 + m)))
    simp only [List.set_cons_zero] at rO
    replace rS := rS.keeps kp (by omega)
    replace bw := bw.setCell (p := ⟨w2.heap.size + 1 + 1 + 1 + 1 + 1, 0, none⟩) (by simp; omega) (.int .i64 (2147483647 + (1 + m)))
    clear kp
    have H := Lib.hid (state_any twoP (some ⟨gp, 0, none⟩) (some ⟨w2.heap.size + 1 + 1 + 1 + 1, 0, none⟩) (some ⟨w2.heap.size + 1 + 1 + 1 + 1 + 1, 0, none⟩) 2 2 1 ⟨[⟨0, 3, [5], []⟩, ⟨1, 2, [5, 2], [5, 2]⟩], 4, [2147483647 + (1 + m)], 0, 0⟩ (w3.setCell ⟨w2.heap.size + 1 + 1 + 1 + 1 + 1, 0, none⟩ (.int .i64 (2147483647 + (1 + m)))) (HL2.out.below bw) (RP2.out.below bw) (two_frames (f0 := ⟨0, 3, [5], []⟩) (f1 := ⟨1, 2, [5, 2], [5, 2]⟩) rFR (intsL (xs := [5]) rI1 (by simp)) (reads_nil _ _) (intsL (xs := [5, 2]) rI2 (by simp)) (intsL (xs := [5, 2]) rI3 (by simp))) (by simp) (intsL (xs := [2147483647 + (1 + m)]) rO (by simp)))
    rw [ff2 hd1 hd2, twoP_len] at H
    unfold sttV at H
    simp only [len1, len2] at H
    have BF := Lib.hid (below_trans B2.out bw)
    have eP0 := rP.cell (k := 0) (by simp)
    simp only [List.getElem_cons_zero] at eP0
    have eS0 := rS.cell (k := 0) (by simp)
    simp only [List.getElem_cons_zero] at eS0
    have eS1 := rS.cell (k := 1) (by simp)
    simp only [List.getElem_cons_zero, List.getElem_cons_succ] at eS1
    have eS2 := rS.cell (k := 2) (by simp)
    simp only [List.getElem_cons_zero, List.getElem_cons_succ] at eS2
    have eS3 := rS.cell (k := 3) (by simp)
    simp only [List.getElem_cons_zero, List.getElem_cons_succ] at eS3
    have eS4 := rS.cell (k := 4) (by simp)
    simp only [List.getElem_cons_zero, List.getElem_cons_succ] at eS4
    clear bw rP rI1 rI2 rI3 rFR rO rS
    go_wp2_with fail
    (with_reducible refine H.out.mono ?_)
    rintro e w9 ⟨rfl, hb9⟩
    go_wp2_with fail
    go_ret
    exact ⟨rfl, below_trans BF.out hb9⟩
  · skip
    have c96 := S.out.cell (k := 0) (by simp)
    simp only [List.getElem_cons_zero] at c96
    have z97 := S.out.free 0
    have c98 := S.out.cell (k := 1) (by simp)
    simp only [List.getElem_cons_zero, List.getElem_cons_succ] at c98
    have z99 := S.out.free 1
    have c100 := S.out.cell (k := 2) (by simp)
    simp only [List.getElem_cons_zero, List.getElem_cons_succ] at c100
    have z101 := S.out.free 2
    have c102 := S.out.cell (k := 3) (by simp)
    simp only [List.getElem_cons_zero, List.getElem_cons_succ] at c102
    have z103 := S.out.free 3
    have c104 := S.out.cell (k := 4) (by simp)
    simp only [List.getElem_cons_zero, List.getElem_cons_succ] at c104
    have z105 := S.out.free 4
    have c106 := FR.out.cell (k := 0) (by simp)
    simp only [List.getElem_cons_zero] at c106
    have z107 := FR.out.free 0
    have c108 := FR.out.cell (k := 1) (by simp)
    simp only [List.getElem_cons_zero, List.getElem_cons_succ] at c108
    have z109 := FR.out.free 1
    have c110 := FR.out.cell (k := 2) (by simp)
    simp only [List.getElem_cons_zero, List.getElem_cons_succ] at c110
    have z111 := FR.out.free 2
    have c112 := FR.out.cell (k := 3) (by simp)
    simp only [List.getElem_cons_zero, List.getElem_cons_succ] at c112
    have z113 := FR.out.free 3
    have c114 := FR.out.cell (k := 4) (by simp)
    simp only [List.getElem_cons_zero, List.getElem_cons_succ] at c114
    have z115 := FR.out.free 4
    have c116 := FR.out.cell (k := 5) (by simp)
    simp only [List.getElem_cons_zero, List.getElem_cons_succ] at c116
    have z117 := FR.out.free 5
    have c118 := FR.out.cell (k := 6) (by simp)
    simp only [List.getElem_cons_zero, List.getElem_cons_succ] at c118
    have z119 := FR.out.free 6
    have c120 := FR.out.cell (k := 7) (by simp)
    simp only [List.getElem_cons_zero, List.getElem_cons_succ] at c120
    have z121 := FR.out.free 7
    have c122 := O.out.cell (k := 0) (by simp)
    simp only [List.getElem_cons_zero] at c122
    have z123 := O.out.free 0
    have c124 := I3.out.cell (k := 0) (by simp)
    simp only [List.getElem_cons_zero] at c124
    have z125 := I3.out.free 0
    have YW := BW.out.size
    have rP := P.out
    have rI1 := I1.out
    have rI2 := I2.out
    have rI3 := I3.out
    have rFR := FR.out
    have rO := O.out
    have rS := S.out
    have bw := BW.out
    have kp : Keeps (w2.heap.size + 1 + 1 + 1 + 1 + 1 + 1) w3 (w3.setCell ⟨w2.heap.size + 1 + 1 + 1 + 1 + 1 + 1, 3, none⟩ (.int .i64 4)) := Keeps.put (Keeps.refl _ _) _ _
    replace rP := rP.keeps kp (by omega)
    replace rI1 := rI1.keeps kp (by omega)
    replace rI2 := rI2.keeps kp (by omega)
    replace rI3 := rI3.keeps kp (by omega)
    replace rFR := rFR.keeps kp (by omega)
    replace rO := rO.keeps kp (by omega)
    replace rS := rS.put 3 (.int .i64 4)
    simp only [List.set_cons_zero, List.set_cons_succ] at rS
    replace bw := bw.setCell (p := ⟨w2.heap.size + 1 + 1 + 1 + 1 + 1 + 1, 3, none⟩) (by simp; omega) (.int .i64 4)
    clear kp
    have H := Lib.hid (state_any twoP (some ⟨gp, 0, none⟩) (some ⟨w2.heap.size + 1 + 1 + 1 + 1, 0, none⟩) (some ⟨w2.heap.size + 1 + 1 + 1 + 1 + 1, 0, none⟩) 2 2 1 ⟨[⟨0, 3, [5], []⟩, ⟨1, 2, [5, 2], [5, 2]⟩], 4, [1], 4, 0⟩ (w3.setCell ⟨w2.heap.size + 1 + 1 + 1 + 1 + 1 + 1, 3, none⟩ (.int .i64 4)) (HL2.out.below bw) (RP2.out.below bw) (two_frames (f0 := ⟨0, 3, [5], []⟩) (f1 := ⟨1, 2, [5, 2], [5, 2]⟩) rFR (intsL (xs := [5]) rI1 (by simp)) (reads_nil _ _) (intsL (xs := [5, 2]) rI2 (by simp)) (intsL (xs := [5, 2]) rI3 (by simp))) (by simp) (intsL (xs := [1]) rO (by simp)))
    rw [ff3 hd1 hd2, twoP_len] at H
    unfold sttV at H
    simp only [len1, len2] at H
    have BF := Lib.hid (below_trans B2.out bw)
    have eP0 := rP.cell (k := 0) (by simp)
    simp only [List.getElem_cons_zero] at eP0
    have eS0 := rS.cell (k := 0) (by simp)
    simp only [List.getElem_cons_zero] at eS0
    have eS1 := rS.cell (k := 1) (by simp)
    simp only [List.getElem_cons_zero, List.getElem_cons_succ] at eS1
    have eS2 := rS.cell (k := 2) (by simp)
    simp only [List.getElem_cons_zero, List.getElem_cons_succ] at eS2
    have eS3 := rS.cell (k := 3) (by simp)
    simp only [List.getElem_cons_zero, List.getElem_cons_succ] at eS3
    have eS4 := rS.cell (k := 4) (by simp)
    simp only [List.getElem_cons_zero, List.getElem_cons_succ] at eS4
    clear bw rP rI1 rI2 rI3 rFR rO rS
    go_wp2_with fail
    (with_reducible refine H.out.mono ?_)
    rintro e w9 ⟨rfl, hb9⟩
    go_wp2_with fail
    go_ret
    exact ⟨rfl, below_trans BF.out hb9⟩
  · skip
    have c126 := S.out.cell (k := 0) (by simp)
    simp only [List.getElem_cons_zero] at c126
    have z127 := S.out.free 0
    have c128 := S.out.cell (k := 1) (by simp)
    simp only [List.getElem_cons_zero, List.getElem_cons_succ] at c128
    have z129 := S.out.free 1
    have c130 := S.out.cell (k := 2) (by simp)
    simp only [List.getElem_cons_zero, List.getElem_cons_succ] at c130
    have z131 := S.out.free 2
    have c132 := S.out.cell (k := 3) (by simp)
    simp only [List.getElem_cons_zero, List.getElem_cons_succ] at c132
    have z133 := S.out.free 3
    have c134 := S.out.cell (k := 4) (by simp)
    simp only [List.getElem_cons_zero, List.getElem_cons_succ] at c134
    have z135 := S.out.free 4
    have c136 := FR.out.cell (k := 0) (by simp)
    simp only [List.getElem_cons_zero] at c136
    have z137 := FR.out.free 0
    have c138 := FR.out.cell (k := 1) (by simp)
    simp only [List.getElem_cons_zero, List.getElem_cons_succ] at c138
    have z139 := FR.out.free 1
    have c140 := FR.out.cell (k := 2) (by simp)
    simp only [List.getElem_cons_zero, List.getElem_cons_succ] at c140
    have z141 := FR.out.free 2
    have c142 := FR.out.cell (k := 3) (by simp)
    simp only [List.getElem_cons_zero, List.getElem_cons_succ] at c142
    have z143 := FR.out.free 3
    have c144 := FR.out.cell (k := 4) (by simp)
    simp only [List.getElem_cons_zero, List.getElem_cons_succ] at c144
    have z145 := FR.out.free 4
    have c146 := FR.out.cell (k := 5) (by simp)
    simp only [List.getElem_cons_zero, List.getElem_cons_succ] at c146
    have z147 := FR.out.free 5
    have c148 := FR.out.cell (k := 6) (by simp)
    simp only [List.getElem_cons_zero, List.getElem_cons_succ] at c148
    have z149 := FR.out.free 6
    have c150 := FR.out.cell (k := 7) (by simp)
    simp only [List.getElem_cons_zero, List.getElem_cons_succ] at c150
    have z151 := FR.out.free 7
    have c152 := O.out.cell (k := 0) (by simp)
    simp only [List.getElem_cons_zero] at c152
    have z153 := O.out.free 0
    have c154 := I3.out.cell (k := 0) (by simp)
    simp only [List.getElem_cons_zero] at c154
    have z155 := I3.out.free 0
    have YW := BW.out.size
    have rP := P.out
    have rI1 := I1.out
    have rI2 := I2.out
    have rI3 := I3.out
    have rFR := FR.out
    have rO := O.out
    have rS := S.out
    have bw := BW.out
    have kp : Keeps (w2.heap.size + 1 + 1 + 1 + 1 + 1 + 1) w3 (w3.setCell ⟨w2.heap.size + 1 + 1 + 1 + 1 + 1 + 1, 4, none⟩ (.int .i64 (1 + m))) := Keeps.put (Keeps.refl _ _) _ _
    replace rP := rP.keeps kp (by omega)
    replace rI1 := rI1.keeps kp (by omega)
    replace rI2 := rI2.keeps kp (by omega)
    replace rI3 := rI3.keeps kp (by omega)
    replace rFR := rFR.keeps kp (by omega)
    replace rO := rO.keeps kp (by omega)
    replace rS := rS.put 4 (.int .i64 (1 + m))
    simp only [List.set_cons_zero, List.set_cons_succ] at rS
    replace bw := bw.setCell (p := ⟨w2.heap.size + 1 + 1 + 1 + 1 + 1 + 1, 4, none⟩) (by simp; omega) (.int .i64 (1 + m))
    clear kp
    have H := Lib.hid (state_any twoP (some ⟨gp, 0, none⟩) (some ⟨w2.heap.size + 1 + 1 + 1 + 1, 0, none⟩) (some ⟨w2.heap.size + 1 + 1 + 1 + 1 + 1, 0, none⟩) 2 2 1 ⟨[⟨0, 3, [5], []⟩, ⟨1, 2, [5, 2], [5, 2]⟩], 4, [1], 0, 1 + m⟩ (w3.setCell ⟨w2.heap.size + 1 + 1 + 1 + 1 + 1 + 1, 4, none⟩ (.int .i64 (1 + m))) (HL2.out.below bw) (RP2.out.below bw) (two_frames (f0 := ⟨0, 3, [5], []⟩) (f1 := ⟨1, 2, [5, 2], [5, 2]⟩) rFR (intsL (xs := [5]) rI1 (by simp)) (reads_nil _ _) (intsL (xs := [5, 2]) rI2 (by simp)) (intsL (xs := [5, 2]) rI3 (by simp))) (by simp) (intsL (xs := [1]) rO (by simp)))
    rw [ff4 hd1 hd2, twoP_len] at H
    unfold sttV at H
    simp only [len1, len2] at H
    have BF := Lib.hid (below_trans B2.out bw)
    have eP0 := rP.cell (k := 0) (by simp)
    simp only [List.getElem_cons_zero] at eP0
    have eS0 := rS.cell (k := 0) (by simp)
    simp only [List.getElem_cons_zero] at eS0
    have eS1 := rS.cell (k := 1) (by simp)
    simp only [List.getElem_cons_zero, List.getElem_cons_succ] at eS1
    have eS2 := rS.cell (k := 2) (by simp)
    simp only [List.getElem_cons_zero, List.getElem_cons_succ] at eS2
    have eS3 := rS.cell (k := 3) (by simp)
    simp only [List.getElem_cons_zero, List.getElem_cons_succ] at eS3
    have eS4 := rS.cell (k := 4) (by simp)
    simp only [List.getElem_cons_zero, List.getElem_cons_succ] at eS4
    clear bw rP rI1 rI2 rI3 rFR rO rS
    go_wp2_with fail
    (with_reducible refine H.out.mono ?_)
    rintro e w9 ⟨rfl, hb9⟩
    go_wp2_with fail
    go_ret
    exact ⟨rfl, below_trans BF.out hb9⟩
  · skip
    have c156 := S.out.cell (k := 0) (by simp)
    simp only [List.getElem_cons_zero] at c156
    have z157 := S.out.free 0
    have c158 := S.out.cell (k := 1) (by simp)
    simp only [List.getElem_cons_zero, List.getElem_cons_succ] at c158
    have z159 := S.out.free 1
    have c160 := S.out.cell (k := 2) (by simp)
    simp only [List.getElem_cons_zero, List.getElem_cons_succ] at c160
    have z161 := S.out.free 2
    have c162 := S.out.cell (k := 3) (by simp)
    simp only [List.getElem_cons_zero, List.getElem_cons_succ] at c162
    have z163 := S.out.free 3
    have c164 := S.out.cell (k := 4) (by simp)
    simp only [List.getElem_cons_zero, List.getElem_cons_succ] at c164
    have z165 := S.out.free 4
    have c166 := FR.out.cell (k := 0) (by simp)
    simp only [List.getElem_cons_zero] at c166
    have z167 := FR.out.free 0
    have c168 := FR.out.cell (k := 1) (by simp)
    simp only [List.getElem_cons_zero, List.getElem_cons_succ] at c168
    have z169 := FR.out.free 1
    have c170 := FR.out.cell (k := 2) (by simp)
    simp only [List.getElem_cons_zero, List.getElem_cons_succ] at c170
    have z171 := FR.out.free 2
    have c172 := FR.out.cell (k := 3) (by simp)
    simp only [List.getElem_cons_zero, List.getElem_cons_succ] at c172
    have z173 := FR.out.free 3
    have c174 := FR.out.cell (k := 4) (by simp)
    simp only [List.getElem_cons_zero, List.getElem_cons_succ] at c174
    have z175 := FR.out.free 4
    have c176 := FR.out.cell (k := 5) (by simp)
    simp only [List.getElem_cons_zero, List.getElem_cons_succ] at c176
    have z177 := FR.out.free 5
    have c178 := FR.out.cell (k := 6) (by simp)
    simp only [List.getElem_cons_zero, List.getElem_cons_succ] at c178
    have z179 := FR.out.free 6
    have c180 := FR.out.cell (k := 7) (by simp)
    simp only [List.getElem_cons_zero, List.getElem_cons_succ] at c180
    have z181 := FR.out.free 7
    have c182 := O.out.cell (k := 0) (by simp)
    simp only [List.getElem_cons_zero] at c182
    have z183 := O.out.free 0
    have c184 := I3.out.cell (k := 0) (by simp)
    simp only [List.getElem_cons_zero] at c184
    have z185 := I3.out.free 0
    have YW := BW.out.size
    have rP := P.out
    have rI1 := I1.out
    have rI2 := I2.out
    have rI3 := I3.out
    have rFR := FR.out
    have rO := O.out
    have rS := S.out
    have bw := BW.out
    have kp : Keeps (w2.heap.size + 1 + 1 + 1 + 1 + 1 + 1) w3 (w3.setCell ⟨w2.heap.size + 1 + 1 + 1 + 1 + 1 + 1, 0, none⟩ (.slice none 0 0)) := Keeps.put (Keeps.refl _ _) _ _
    replace rP := rP.keeps kp (by omega)
    replace rI1 := rI1.keeps kp (by omega)
    replace rI2 := rI2.keeps kp (by omega)
    replace rI3 := rI3.keeps kp (by omega)
    replace rFR := rFR.keeps kp (by omega)
    replace rO := rO.keeps kp (by omega)
    replace rS := rS.put 0 (.slice none 0 0)
    simp only [List.set_cons_zero] at rS
    replace bw := bw.setCell (p := ⟨w2.heap.size + 1 + 1 + 1 + 1 + 1 + 1, 0, none⟩) (by simp; omega) (.slice none 0 0)
    clear kp
    have H := Lib.hid (state_any twoP (some ⟨gp, 0, none⟩) none (some ⟨w2.heap.size + 1 + 1 + 1 + 1 + 1, 0, none⟩) 2 0 1 ⟨[], 4, [1], 0, 0⟩ (w3.setCell ⟨w2.heap.size + 1 + 1 + 1 + 1 + 1 + 1, 0, none⟩ (.slice none 0 0)) (HL2.out.below bw) (RP2.out.below bw) (⟨by simp, fun h => absurd h (by simp)⟩) (by simp) (intsL (xs := [1]) rO (by simp)))
    rw [ff5 hd1 hd2, twoP_len] at H
    unfold sttV at H
    simp only [len0, len1] at H
    have BF := Lib.hid (below_trans B2.out bw)
    have eP0 := rP.cell (k := 0) (by simp)
    simp only [List.getElem_cons_zero] at eP0
    have eS0 := rS.cell (k := 0) (by simp)
    simp only [List.getElem_cons_zero] at eS0
    have eS1 := rS.cell (k := 1) (by simp)
    simp only [List.getElem_cons_zero, List.getElem_cons_succ] at eS1
    have eS2 := rS.cell (k := 2) (by simp)
    simp only [List.getElem_cons_zero, List.getElem_cons_succ] at eS2
    have eS3 := rS.cell (k := 3) (by simp)
    simp only [List.getElem_cons_zero, List.getElem_cons_succ] at eS3
    have eS4 := rS.cell (k := 4) (by simp)
    simp only [List.getElem_cons_zero, List.getElem_cons_succ] at eS4
    clear bw rP rI1 rI2 rI3 rFR rO rS
    go_wp2_with fail
    (with_reducible refine H.out.mono ?_)
    rintro e w9 ⟨rfl, hb9⟩
    go_wp2_with fail
    go_ret
    exact ⟨rfl, below_trans BF.out hb9⟩
  · skip
    have c186 := S.out.cell (k := 0) (by simp)
    simp only [List.getElem_cons_zero] at c186
    have z187 := S.out.free 0
    have c188 := S.out.cell (k := 1) (by simp)
    simp only [List.getElem_cons_zero, List.getElem_cons_succ] at c188
    have z189 := S.out.free 1
    have c190 := S.out.cell (k := 2) (by simp)
    simp only [List.getElem_cons_zero, List.getElem_cons_succ] at c190
    have z191 := S.out.free 2
    have c192 := S.out.cell (k := 3) (by simp)
    simp only [List.getElem_cons_zero, List.getElem_cons_succ] at c192
    have z193 := S.out.free 3
    have c194 := S.out.cell (k := 4) (by simp)
    simp only [List.getElem_cons_zero, List.getElem_cons_succ] at c194
    have z195 := S.out.free 4
    have c196 := FR.out.cell (k := 0) (by simp)
    simp only [List.getElem_cons_zero] at c196
    have z197 := FR.out.free 0
    have c198 := FR.out.cell (k := 1) (by simp)
    simp only [List.getElem_cons_zero, List.getElem_cons_succ] at c198
    have z199 := FR.out.free 1
    have c200 := FR.out.cell (k := 2) (by simp)
    simp only [List.getElem_cons_zero, List.getElem_cons_succ] at c200
    have z201 := FR.out.free 2
    have c202 := FR.out.cell (k := 3) (by simp)
    simp only [List.getElem_cons_zero, List.getElem_cons_succ] at c202
    have z203 := FR.out.free 3
    have c204 := FR.out.cell (k := 4) (by simp)
    simp only [List.getElem_cons_zero, List.getElem_cons_succ] at c204
    have z205 := FR.out.free 4
    have c206 := FR.out.cell (k := 5) (by simp)
    simp only [List.getElem_cons_zero, List.getElem_cons_succ] at c206
    have z207 := FR.out.free 5
    have c208 := FR.out.cell (k := 6) (by simp)
    simp only [List.getElem_cons_zero, List.getElem_cons_succ] at c208
    have z209 := FR.out.free 6
    have c210 := FR.out.cell (k := 7) (by simp)
    simp only [List.getElem_cons_zero, List.getElem_cons_succ] at c210
    have z211 := FR.out.free 7
    have c212 := O.out.cell (k := 0) (by simp)
    simp only [List.getElem_cons_zero] at c212
    have z213 := O.out.free 0
    have c214 := I3.out.cell (k := 0) (by simp)
    simp only [List.getElem_cons_zero] at c214
    have z215 := I3.out.free 0
    have YW := BW.out.size
    have rP := P.out
    have rI1 := I1.out
    have rI2 := I2.out
    have rI3 := I3.out
    have rFR := FR.out
    have rO := O.out
    have rS := S.out
    have bw := BW.out
    have kp : Keeps (w2.heap.size + 1 + 1 + 1 + 1 + 1 + 1) w3 (w3.setCell ⟨w2.heap.size + 1 + 1 + 1 + 1 + 1 + 1, 0, none⟩ (.slice (some ⟨w2.heap.size + 1 + 1 + 1 + 1, 0, none⟩) 1 2)) := Keeps.put (Keeps.refl _ _) _ _
    replace rP := rP.keeps kp (by omega)
    replace rI1 := rI1.keeps kp (by omega)
    replace rI2 := rI2.keeps kp (by omega)
    replace rI3 := rI3.keeps kp (by omega)
    replace rFR := rFR.keeps kp (by omega)
    replace rO := rO.keeps kp (by omega)
    replace rS := rS.put 0 (.slice (some ⟨w2.heap.size + 1 + 1 + 1 + 1, 0, none⟩) 1 2)
    simp only [List.set_cons_zero] at rS
    replace bw := bw.setCell (p := ⟨w2.heap.size + 1 + 1 + 1 + 1 + 1 + 1, 0, none⟩) (by simp; omega) (.slice (some ⟨w2.heap.size + 1 + 1 + 1 + 1, 0, none⟩) 1 2)
    clear kp
    have H := Lib.hid (state_any twoP (some ⟨gp, 0, none⟩) (some ⟨w2.heap.size + 1 + 1 + 1 + 1, 0, none⟩) (some ⟨w2.heap.size + 1 + 1 + 1 + 1 + 1, 0, none⟩) 2 2 1 ⟨[⟨0, 3, [5], []⟩], 4, [1], 0, 0⟩ (w3.setCell ⟨w2.heap.size + 1 + 1 + 1 + 1 + 1 + 1, 0, none⟩ (.slice (some ⟨w2.heap.size + 1 + 1 + 1 + 1, 0, none⟩) 1 2)) (HL2.out.below bw) (RP2.out.below bw) (one_frame (f0 := ⟨0, 3, [5], []⟩) (f1 := ⟨1, 2, [5, 2], [5, 2]⟩) rFR (intsL (xs := [5]) rI1 (by simp)) (reads_nil _ _)) (by simp) (intsL (xs := [1]) rO (by simp)))
    rw [ff6 hd1 hd2, twoP_len] at H
    unfold sttV at H
    simp only [len1] at H
    have BF := Lib.hid (below_trans B2.out bw)
    have eP0 := rP.cell (k := 0) (by simp)
    simp only [List.getElem_cons_zero] at eP0
    have eS0 := rS.cell (k := 0) (by simp)
    simp only [List.getElem_cons_zero] at eS0
    have eS1 := rS.cell (k := 1) (by simp)
    simp only [List.getElem_cons_zero, List.getElem_cons_succ] at eS1
    have eS2 := rS.cell (k := 2) (by simp)
    simp only [List.getElem_cons_zero, List.getElem_cons_succ] at eS2
    have eS3 := rS.cell (k := 3) (by simp)
    simp only [List.getElem_cons_zero, List.getElem_cons_succ] at eS3
    have eS4 := rS.cell (k := 4) (by simp)
    simp only [List.getElem_cons_zero, List.getElem_cons_succ] at eS4
    clear bw rP rI1 rI2 rI3 rFR rO rS
    go_wp2_with fail
    (with_reducible refine H.out.mono ?_)
    rintro e w9 ⟨rfl, hb9⟩
    go_wp2_with fail
    go_ret
    exact ⟨rfl, below_trans BF.out hb9⟩
  · skip
    have c216 := S.out.cell (k := 0) (by simp)
    simp only [List.getElem_cons_zero] at c216
    have z217 := S.out.free 0
    have c218 := S.out.cell (k := 1) (by simp)
    simp only [List.getElem_cons_zero, List.getElem_cons_succ] at c218
    have z219 := S.out.free 1
    have c220 := S.out.cell (k := 2) (by simp)
    simp only [List.getElem_cons_zero, List.getElem_cons_succ] at c220
    have z221 := S.out.free 2
    have c222 := S.out.cell (k := 3) (by simp)
    simp only [List.getElem_cons_zero, List.getElem_cons_succ] at c222
    have z223 := S.out.free 3
    have c224 := S.out.cell (k := 4) (by simp)
    simp only [List.getElem_cons_zero, List.getElem_cons_succ] at c224
    have z225 := S.out.free 4
    have c226 := FR.out.cell (k := 0) (by simp)
    simp only [List.getElem_cons_zero] at c226
    have z227 := FR.out.free 0
    have c228 := FR.out.cell (k := 1) (by simp)
    simp only [List.getElem_cons_zero, List.getElem_cons_succ] at c228
    have z229 := FR.out.free 1
    have c230 := FR.out.cell (k := 2) (by simp)
    simp only [List.getElem_cons_zero, List.getElem_cons_succ] at c230
    have z231 := FR.out.free 2
    have c232 := FR.out.cell (k := 3) (by simp)
    simp only [List.getElem_cons_zero, List.getElem_cons_succ] at c232
    have z233 := FR.out.free 3
    have c234 := FR.out.cell (k := 4) (by simp)
    simp only [List.getElem_cons_zero, List.getElem_cons_succ] at c234
    have z235 := FR.out.free 4
    have c236 := FR.out.cell (k := 5) (by simp)
    simp only [List.getElem_cons_zero, List.getElem_cons_succ] at c236
    have z237 := FR.out.free 5
    have c238 := FR.out.cell (k := 6) (by simp)
    simp only [List.getElem_cons_zero, List.getElem_cons_succ] at c238
    have z239 := FR.out.free 6
    have c240 := FR.out.cell (k := 7) (by simp)
    simp only [List.getElem_cons_zero, List.getElem_cons_succ] at c240
    have z241 := FR.out.free 7
    have c242 := O.out.cell (k := 0) (by simp)
    simp only [List.getElem_cons_zero] at c242
    have z243 := O.out.free 0
    have c244 := I3.out.cell (k := 0) (by simp)
    simp only [List.getElem_cons_zero] at c244
    have z245 := I3.out.free 0
    have YW := BW.out.size
    have rP := P.out
    have rI1 := I1.out
    have rI2 := I2.out
    have rI3 := I3.out
    have rFR := FR.out
    have rO := O.out
    have rS := S.out
    have bw := BW.out
    have kp : Keeps (w2.heap.size + 1 + 1 + 1 + 1) w3 (w3.setCell ⟨w2.heap.size + 1 + 1 + 1 + 1, 4, none⟩ (.int .i64 0)) := Keeps.put (Keeps.refl _ _) _ _
    replace rP := rP.keeps kp (by omega)
    replace rI1 := rI1.keeps kp (by omega)
    replace rI2 := rI2.keeps kp (by omega)
    replace rI3 := rI3.keeps kp (by omega)
    replace rFR := rFR.put 4 (.int .i64 0)
    simp only [List.set_cons_zero, List.set_cons_succ] at rFR
    replace rO := rO.keeps kp (by omega)
    replace rS := rS.keeps kp (by omega)
    replace bw := bw.setCell (p := ⟨w2.heap.size + 1 + 1 + 1 + 1, 4, none⟩) (by simp; omega) (.int .i64 0)
    clear kp
    have H := Lib.hid (state_any twoP (some ⟨gp, 0, none⟩) (some ⟨w2.heap.size + 1 + 1 + 1 + 1, 0, none⟩) (some ⟨w2.heap.size + 1 + 1 + 1 + 1 + 1, 0, none⟩) 2 2 1 ⟨[⟨0, 3, [5], []⟩, ⟨0, 2, [5, 2], [5, 2]⟩], 4, [1], 0, 0⟩ (w3.setCell ⟨w2.heap.size + 1 + 1 + 1 + 1, 4, none⟩ (.int .i64 0)) (HL2.out.below bw) (RP2.out.below bw) (two_frames (f0 := ⟨0, 3, [5], []⟩) (f1 := ⟨0, 2, [5, 2], [5, 2]⟩) rFR (intsL (xs := [5]) rI1 (by simp)) (reads_nil _ _) (intsL (xs := [5, 2]) rI2 (by simp)) (intsL (xs := [5, 2]) rI3 (by simp))) (by simp) (intsL (xs := [1]) rO (by simp)))
    rw [ff7 hd1 hd2, twoP_len] at H
    unfold sttV at H
    simp only [len1, len2] at H
    have BF := Lib.hid (below_trans B2.out bw)
    have eP0 := rP.cell (k := 0) (by simp)
    simp only [List.getElem_cons_zero] at eP0
    have eS0 := rS.cell (k := 0) (by simp)
    simp only [List.getElem_cons_zero] at eS0
    have eS1 := rS.cell (k := 1) (by simp)
    simp only [List.getElem_cons_zero, List.getElem_cons_succ] at eS1
    have eS2 := rS.cell (k := 2) (by simp)
    simp only [List.getElem_cons_zero, List.getElem_cons_succ] at eS2
    have eS3 := rS.cell (k := 3) (by simp)
    simp only [List.getElem_cons_zero, List.getElem_cons_succ] at eS3
    have eS4 := rS.cell (k := 4) (by simp)
    simp only [List.getElem_cons_zero, List.getElem_cons_succ] at eS4
    clear bw rP rI1 rI2 rI3 rFR rO rS
    go_wp2_with fail
    (with_reducible refine H.out.mono ?_)
    rintro e w9 ⟨rfl, hb9⟩
    go_wp2_with fail
    go_ret
    exact ⟨rfl, below_trans BF.out hb9⟩
  · skip
    have c246 := S.out.cell (k := 0) (by simp)
    simp only [List.getElem_cons_zero] at c246
    have z247 := S.out.free 0
    have c248 := S.out.cell (k := 1) (by simp)
    simp only [List.getElem_cons_zero, List.getElem_cons_succ] at c248
    have z249 := S.out.free 1
    have c250 := S.out.cell (k := 2) (by simp)
    simp only [List.getElem_cons_zero, List.getElem_cons_succ] at c250
    have z251 := S.out.free 2
    have c252 := S.out.cell (k := 3) (by simp)
    simp only [List.getElem_cons_zero, List.getElem_cons_succ] at c252
    have z253 := S.out.free 3
    have c254 := S.out.cell (k := 4) (by simp)
    simp only [List.getElem_cons_zero, List.getElem_cons_succ] at c254
    have z255 := S.out.free 4
    have c256 := FR.out.cell (k := 0) (by simp)
    simp only [List.getElem_cons_zero] at c256
    have z257 := FR.out.free 0
    have c258 := FR.out.cell (k := 1) (by simp)
    simp only [List.getElem_cons_zero, List.getElem_cons_succ] at c258
    have z259 := FR.out.free 1
    have c260 := FR.out.cell (k := 2) (by simp)
    simp only [List.getElem_cons_zero, List.getElem_cons_succ] at c260
    have z261 := FR.out.free 2
    have c262 := FR.out.cell (k := 3) (by simp)
    simp only [List.getElem_cons_zero, List.getElem_cons_succ] at c262
    have z263 := FR.out.free 3
    have c264 := FR.out.cell (k := 4) (by simp)
    simp only [List.getElem_cons_zero, List.getElem_cons_succ] at c264
    have z265 := FR.out.free 4
    have c266 := FR.out.cell (k := 5) (by simp)
    simp only [List.getElem_cons_zero, List.getElem_cons_succ] at c266
    have z267 := FR.out.free 5
    have c268 := FR.out.cell (k := 6) (by simp)
    simp only [List.getElem_cons_zero, List.getElem_cons_succ] at c268
    have z269 := FR.out.free 6
    have c270 := FR.out.cell (k := 7) (by simp)
    simp only [List.getElem_cons_zero, List.getElem_cons_succ] at c270
    have z271 := FR.out.free 7
    have c272 := O.out.cell (k := 0) (by simp)
    simp only [List.getElem_cons_zero] at c272
    have z273 := O.out.free 0
    have c274 := I3.out.cell (k := 0) (by simp)
    simp only [List.getElem_cons_zero] at c274
    have z275 := I3.out.free 0
    have YW := BW.out.size
    have rP := P.out
    have rI1 := I1.out
    have rI2 := I2.out
    have rI3 := I3.out
    have rFR := FR.out
    have rO := O.out
    have rS := S.out
    have bw := BW.out
    have kp : Keeps (w2.heap.size + 1 + 1 + 1 + 1) w3 (w3.setCell ⟨w2.heap.size + 1 + 1 + 1 + 1, 5, none⟩ (.int .i64 (4 + (1 + m)))) := Keeps.put (Keeps.refl _ _) _ _
    replace rP := rP.keeps kp (by omega)
    replace rI1 := rI1.keeps kp (by omega)
    replace rI2 := rI2.keeps kp (by omega)
    replace rI3 := rI3.keeps kp (by omega)
    replace rFR := rFR.put 5 (.int .i64 (4 + (1 + m)))
    simp only [List.set_cons_zero, List.set_cons_succ] at rFR
    replace rO := rO.keeps kp (by omega)
    replace rS := rS.keeps kp (by omega)
    replace bw := bw.setCell (p := ⟨w2.heap.size + 1 + 1 + 1 + 1, 5, none⟩) (by simp; omega) (.int .i64 (4 + (1 + m)))
    clear kp
    have H := Lib.hid (state_any twoP (some ⟨gp, 0, none⟩) (some ⟨w2.heap.size + 1 + 1 + 1 + 1, 0, none⟩) (some ⟨w2.heap.size + 1 + 1 + 1 + 1 + 1, 0, none⟩) 2 2 1 ⟨[⟨0, 3, [5], []⟩, ⟨1, 4 + (1 + m), [5, 2], [5, 2]⟩], 4, [1], 0, 0⟩ (w3.setCell ⟨w2.heap.size + 1 + 1 + 1 + 1, 5, none⟩ (.int .i64 (4 + (1 + m)))) (HL2.out.below bw) (RP2.out.below bw) (two_frames (f0 := ⟨0, 3, [5], []⟩) (f1 := ⟨1, 4 + (1 + m), [5, 2], [5, 2]⟩) rFR (intsL (xs := [5]) rI1 (by simp)) (reads_nil _ _) (intsL (xs := [5, 2]) rI2 (by simp)) (intsL (xs := [5, 2]) rI3 (by simp))) (by simp) (intsL (xs := [1]) rO (by simp)))
    rw [ff8 hd1 hd2, twoP_len] at H
    unfold sttV at H
    simp only [len1, len2] at H
    have BF := Lib.hid (below_trans B2.out bw)
    have eP0 := rP.cell (k := 0) (by simp)
    simp only [List.getElem_cons_zero] at eP0
    have eS0 := rS.cell (k := 0) (by simp)
    simp only [List.getElem_cons_zero] at eS0
    have eS1 := rS.cell (k := 1) (by simp)
    simp only [List.getElem_cons_zero, List.getElem_cons_succ] at eS1
    have eS2 := rS.cell (k := 2) (by simp)
    simp only [List.getElem_cons_zero, List.getElem_cons_succ] at eS2
    have eS3 := rS.cell (k := 3) (by simp)
    simp only [List.getElem_cons_zero, List.getElem_cons_succ] at eS3
    have eS4 := rS.cell (k := 4) (by simp)
    simp only [List.getElem_cons_zero, List.getElem_cons_succ] at eS4
    clear bw rP rI1 rI2 rI3 rFR rO rS
    go_wp2_with fail
    (with_reducible refine H.out.mono ?_)
    rintro e w9 ⟨rfl, hb9⟩
    go_wp2_with fail
    go_ret
    exact ⟨rfl, below_trans BF.out hb9⟩
  · skip
    have c276 := S.out.cell (k := 0) (by simp)
    simp only [List.getElem_cons_zero] at c276
    have z277 := S.out.free 0
    have c278 := S.out.cell (k := 1) (by simp)
    simp only [List.getElem_cons_zero, List.getElem_cons_succ] at c278
    have z279 := S.out.free 1
    have c280 := S.out.cell (k := 2) (by simp)
    simp only [List.getElem_cons_zero, List.getElem_cons_succ] at c280
    have z281 := S.out.free 2
    have c282 := S.out.cell (k := 3) (by simp)
    simp only [List.getElem_cons_zero, List.getElem_cons_succ] at c282
    have z283 := S.out.free 3
    have c284 := S.out.cell (k := 4) (by simp)
    simp only [List.getElem_cons_zero, List.getElem_cons_succ] at c284
    have z285 := S.out.free 4
    have c286 := FR.out.cell (k := 0) (by simp)
    simp only [List.getElem_cons_zero] at c286
    have z287 := FR.out.free 0
    have c288 := FR.out.cell (k := 1) (by simp)
    simp only [List.getElem_cons_zero, List.getElem_cons_succ] at c288
    have z289 := FR.out.free 1
    have c290 := FR.out.cell (k := 2) (by simp)
    simp only [List.getElem_cons_zero, List.getElem_cons_succ] at c290
    have z291 := FR.out.free 2
    have c292 := FR.out.cell (k := 3) (by simp)
    simp only [List.getElem_cons_zero, List.getElem_cons_succ] at c292
    have z293 := FR.out.free 3
    have c294 := FR.out.cell (k := 4) (by simp)
    simp only [List.getElem_cons_zero, List.getElem_cons_succ] at c294
    have z295 := FR.out.free 4
    have c296 := FR.out.cell (k := 5) (by simp)
    simp only [List.getElem_cons_zero, List.getElem_cons_succ] at c296
    have z297 := FR.out.free 5
    have c298 := FR.out.cell (k := 6) (by simp)
    simp only [List.getElem_cons_zero, List.getElem_cons_succ] at c298
    have z299 := FR.out.free 6
    have c300 := FR.out.cell (k := 7) (by simp)
    simp only [List.getElem_cons_zero, List.getElem_cons_succ] at c300
    have z301 := FR.out.free 7
    have c302 := O.out.cell (k := 0) (by simp)
    simp only [List.getElem_cons_zero] at c302
    have z303 := O.out.free 0
    have c304 := I3.out.cell (k := 0) (by simp)
    simp only [List.getElem_cons_zero] at c304
    have z305 := I3.out.free 0
    have YW := BW.out.size
    have rP := P.out
    have rI1 := I1.out
    have rI2 := I2.out
    have rI3 := I3.out
    have rFR := FR.out
    have rO := O.out
    have rS := S.out
    have bw := BW.out
    have kp : Keeps (w2.heap.size + 1 + 1 + 1 + 1) w3 (w3.setCell ⟨w2.heap.size + 1 + 1 + 1 + 1, 5, none⟩ (.int .i64 (-(1 + m)))) := Keeps.put (Keeps.refl _ _) _ _
    replace rP := rP.keeps kp (by omega)
    replace rI1 := rI1.keeps kp (by omega)
    replace rI2 := rI2.keeps kp (by omega)
    replace rI3 := rI3.keeps kp (by omega)
    replace rFR := rFR.put 5 (.int .i64 (-(1 + m)))
    simp only [List.set_cons_zero, List.set_cons_succ] at rFR
    replace rO := rO.keeps kp (by omega)
    replace rS := rS.keeps kp (by omega)
    replace bw := bw.setCell (p := ⟨w2.heap.size + 1 + 1 + 1 + 1, 5, none⟩) (by simp; omega) (.int .i64 (-(1 + m)))
    clear kp
    have H := Lib.hid (state_any twoP (some ⟨gp, 0, none⟩) (some ⟨w2.heap.size + 1 + 1 + 1 + 1, 0, none⟩) (some ⟨w2.heap.size + 1 + 1 + 1 + 1 + 1, 0, none⟩) 2 2 1 ⟨[⟨0, 3, [5], []⟩, ⟨1, -(1 + m), [5, 2], [5, 2]⟩], 4, [1], 0, 0⟩ (w3.setCell ⟨w2.heap.size + 1 + 1 + 1 + 1, 5, none⟩ (.int .i64 (-(1 + m)))) (HL2.out.below bw) (RP2.out.below bw) (two_frames (f0 := ⟨0, 3, [5], []⟩) (f1 := ⟨1, -(1 + m), [5, 2], [5, 2]⟩) rFR (intsL (xs := [5]) rI1 (by simp)) (reads_nil _ _) (intsL (xs := [5, 2]) rI2 (by simp)) (intsL (xs := [5, 2]) rI3 (by simp))) (by simp) (intsL (xs := [1]) rO (by simp)))
    rw [ff9 hd1 hd2, twoP_len] at H
    unfold sttV at H
    simp only [len1, len2] at H
    have BF := Lib.hid (below_trans B2.out bw)
    have eP0 := rP.cell (k := 0) (by simp)
    simp only [List.getElem_cons_zero] at eP0
    have eS0 := rS.cell (k := 0) (by simp)
    simp only [List.getElem_cons_zero] at eS0
    have eS1 := rS.cell (k := 1) (by simp)
    simp only [List.getElem_cons_zero, List.getElem_cons_succ] at eS1
    have eS2 := rS.cell (k := 2) (by simp)
    simp only [List.getElem_cons_zero, List.getElem_cons_succ] at eS2
    have eS3 := rS.cell (k := 3) (by simp)
    simp only [List.getElem_cons_zero, List.getElem_cons_succ] at eS3
    have eS4 := rS.cell (k := 4) (by simp)
    simp only [List.getElem_cons_zero, List.getElem_cons_succ] at eS4
    clear bw rP rI1 rI2 rI3 rFR rO rS
    go_wp2_with fail
    (with_reducible refine H.out.mono ?_)
    rintro e w9 ⟨rfl, hb9⟩
    go_wp2_with fail
    go_ret
    exact ⟨rfl, below_trans BF.out hb9⟩
  · skip
    have c306 := S.out.cell (k := 0) (by simp)
    simp only [List.getElem_cons_zero] at c306
    have z307 := S.out.free 0
    have c308 := S.out.cell (k := 1) (by simp)
    simp only [List.getElem_cons_zero, List.getElem_cons_succ] at c308
    have z309 := S.out.free 1
    have c310 := S.out.cell (k := 2) (by simp)
    simp only [List.getElem_cons_zero, List.getElem_cons_succ] at c310
    have z311 := S.out.free 2
    have c312 := S.out.cell (k := 3) (by simp)
    simp only [List.getElem_cons_zero, List.getElem_cons_succ] at c312
    have z313 := S.out.free 3
    have c314 := S.out.cell (k := 4) (by simp)
    simp only [List.getElem_cons_zero, List.getElem_cons_succ] at c314
    have z315 := S.out.free 4
    have c316 := FR.out.cell (k := 0) (by simp)
    simp only [List.getElem_cons_zero] at c316
    have z317 := FR.out.free 0
    have c318 := FR.out.cell (k := 1) (by simp)
    simp only [List.getElem_cons_zero, List.getElem_cons_succ] at c318
    have z319 := FR.out.free 1
    have c320 := FR.out.cell (k := 2) (by simp)
    simp only [List.getElem_cons_zero, List.getElem_cons_succ] at c320
    have z321 := FR.out.free 2
    have c322 := FR.out.cell (k := 3) (by simp)
    simp only [List.getElem_cons_zero, List.getElem_cons_succ] at c322
    have z323 := FR.out.free 3
    have c324 := FR.out.cell (k := 4) (by simp)
    simp only [List.getElem_cons_zero, List.getElem_cons_succ] at c324
    have z325 := FR.out.free 4
    have c326 := FR.out.cell (k := 5) (by simp)
    simp only [List.getElem_cons_zero, List.getElem_cons_succ] at c326
    have z327 := FR.out.free 5
    have c328 := FR.out.cell (k := 6) (by simp)
    simp only [List.getElem_cons_zero, List.getElem_cons_succ] at c328
    have z329 := FR.out.free 6
    have c330 := FR.out.cell (k := 7) (by simp)
    simp only [List.getElem_cons_zero, List.getElem_cons_succ] at c330
    have z331 := FR.out.free 7
    have c332 := O.out.cell (k := 0) (by simp)
    simp only [List.getElem_cons_zero] at c332
    have z333 := O.out.free 0
    have c334 := I3.out.cell (k := 0) (by simp)
    simp only [List.getElem_cons_zero] at c334
    have z335 := I3.out.free 0
    have hna := FR.out.below (below_alloc (Below.refl w3.heap.size w3) (.cells #[.int .i64 1] 3))
    have ca := hna.cell (k := 6) (by simp)
    have za := hna.free 6
    simp only [List.getElem_cons_zero, List.getElem_cons_succ] at ca
    clear hna
    have YW := BW.out.size
    have rP := P.out
    have rI1 := I1.out
    have rI2 := I2.out
    have rI3 := I3.out
    have rFR := FR.out
    have rO := O.out
    have rS := S.out
    have bw := BW.out
    have ltf := blk_lt FR.out
    have ba : Below w3.heap.size w3 (w3.alloc (.cells #[.int .i64 1] 3)) := below_alloc (Below.refl _ _) _
    have rN := RowAt.new 3 [.int .i64 1] w3
    replace rP := rP.below ba
    replace rI1 := rI1.below ba
    replace rI2 := rI2.below ba
    replace rI3 := rI3.below ba
    replace rFR := rFR.below ba
    replace rO := rO.below ba
    replace rS := rS.below ba
    replace bw := below_trans bw ba
    clear ba
    have kp : Keeps (w2.heap.size + 1 + 1 + 1 + 1) (w3.alloc (.cells #[.int .i64 1] 3)) ((w3.alloc (.cells #[.int .i64 1] 3)).setCell ⟨w2.heap.size + 1 + 1 + 1 + 1, 6, none⟩ (.slice (some ⟨w3.heap.size, 0, none⟩) 1 1)) := Keeps.put (Keeps.refl _ _) _ _
    replace rP := rP.keeps kp (by omega)
    replace rI1 := rI1.keeps kp (by omega)
    replace rI2 := rI2.keeps kp (by omega)
    replace rI3 := rI3.keeps kp (by omega)
    replace rFR := rFR.put 6 (.slice (some ⟨w3.heap.size, 0, none⟩) 1 1)
    simp only [List.set_cons_zero, List.set_cons_succ] at rFR
    replace rO := rO.keeps kp (by omega)
    replace rS := rS.keeps kp (by omega)
    replace rN := rN.keeps kp (by omega)
    replace bw := bw.setCell (p := ⟨w2.heap.size + 1 + 1 + 1 + 1, 6, none⟩) (by simp; omega) (.slice (some ⟨w3.heap.size, 0, none⟩) 1 1)
    clear kp
    have H := Lib.hid (state_any twoP (some ⟨gp, 0, none⟩) (some ⟨w2.heap.size + 1 + 1 + 1 + 1, 0, none⟩) (some ⟨w2.heap.size + 1 + 1 + 1 + 1 + 1, 0, none⟩) 2 2 1 ⟨[⟨0, 3, [5], []⟩, ⟨1, 2, [1], [5, 2]⟩], 4, [1], 0, 0⟩ ((w3.alloc (.cells #[.int .i64 1] 3)).setCell ⟨w2.heap.size + 1 + 1 + 1 + 1, 6, none⟩ (.slice (some ⟨w3.heap.size, 0, none⟩) 1 1)) (HL2.out.below bw) (RP2.out.below bw) (two_frames (f0 := ⟨0, 3, [5], []⟩) (f1 := ⟨1, 2, [1], [5, 2]⟩) rFR (intsL (xs := [5]) rI1 (by simp)) (reads_nil _ _) (intsL (xs := [1]) rN (by simp)) (intsL (xs := [5, 2]) rI3 (by simp))) (by simp) (intsL (xs := [1]) rO (by simp)))
    rw [ff10 hd1 hd2, twoP_len] at H
    unfold sttV at H
    simp only [len1, len2] at H
    have BF := Lib.hid (below_trans B2.out bw)
    have eP0 := rP.cell (k := 0) (by simp)
    simp only [List.getElem_cons_zero] at eP0
    have eS0 := rS.cell (k := 0) (by simp)
    simp only [List.getElem_cons_zero] at eS0
    have eS1 := rS.cell (k := 1) (by simp)
    simp only [List.getElem_cons_zero, List.getElem_cons_succ] at eS1
    have eS2 := rS.cell (k := 2) (by simp)
    simp only [List.getElem_cons_zero, List.getElem_cons_succ] at eS2
    have eS3 := rS.cell (k := 3) (by simp)
    simp only [List.getElem_cons_zero, List.getElem_cons_succ] at eS3
    have eS4 := rS.cell (k := 4) (by simp)
    simp only [List.getElem_cons_zero, List.getElem_cons_succ] at eS4
    clear bw rP rI1 rI2 rI3 rFR rO rS rN ltf
    go_wp2_with fail
    (with_reducible refine H.out.mono ?_)
    rintro e w9 ⟨rfl, hb9⟩
    go_wp2_with fail
    go_ret
    exact ⟨rfl, below_trans BF.out hb9⟩
  · skip
    have c336 := S.out.cell (k := 0) (by simp)
    simp only [List.getElem_cons_zero] at c336
    have z337 := S.out.free 0
    have c338 := S.out.cell (k := 1) (by simp)
    simp only [List.getElem_cons_zero, List.getElem_cons_succ] at c338
    have z339 := S.out.free 1
    have c340 := S.out.cell (k := 2) (by simp)
    simp only [List.getElem_cons_zero, List.getElem_cons_succ] at c340
    have z341 := S.out.free 2
    have c342 := S.out.cell (k := 3) (by simp)
    simp only [List.getElem_cons_zero, List.getElem_cons_succ] at c342
    have z343 := S.out.free 3
    have c344 := S.out.cell (k := 4) (by simp)
    simp only [List.getElem_cons_zero, List.getElem_cons_succ] at c344
    have z345 := S.out.free 4
    have c346 := FR.out.cell (k := 0) (by simp)
    simp only [List.getElem_cons_zero] at c346
    have z347 := FR.out.free 0
    have c348 := FR.out.cell (k := 1) (by simp)
    simp only [List.getElem_cons_zero, List.getElem_cons_succ] at c348
    have z349 := FR.out.free 1
    have c350 := FR.out.cell (k := 2) (by simp)
    simp only [List.getElem_cons_zero, List.getElem_cons_succ] at c350
    have z351 := FR.out.free 2
    have c352 := FR.out.cell (k := 3) (by simp)
    simp only [List.getElem_cons_zero, List.getElem_cons_succ] at c352
    have z353 := FR.out.free 3
    have c354 := FR.out.cell (k := 4) (by simp)
    simp only [List.getElem_cons_zero, List.getElem_cons_succ] at c354
    have z355 := FR.out.free 4
    have c356 := FR.out.cell (k := 5) (by simp)
    simp only [List.getElem_cons_zero, List.getElem_cons_succ] at c356
    have z357 := FR.out.free 5
    have c358 := FR.out.cell (k := 6) (by simp)
    simp only [List.getElem_cons_zero, List.getElem_cons_succ] at c358
    have z359 := FR.out.free 6
    have c360 := FR.out.cell (k := 7) (by simp)
    simp only [List.getElem_cons_zero, List.getElem_cons_succ] at c360
    have z361 := FR.out.free 7
    have c362 := O.out.cell (k := 0) (by simp)
    simp only [List.getElem_cons_zero] at c362
    have z363 := O.out.free 0
    have c364 := I3.out.cell (k := 0) (by simp)
    simp only [List.getElem_cons_zero] at c364
    have z365 := I3.out.free 0
    have hna := FR.out.below (below_alloc (Below.refl w3.heap.size w3) (.cells #[.int .i64 1] 3))
    have ca := hna.cell (k := 7) (by simp)
    have za := hna.free 7
    simp only [List.getElem_cons_zero, List.getElem_cons_succ] at ca
    clear hna
    have YW := BW.out.size
    have rP := P.out
    have rI1 := I1.out
    have rI2 := I2.out
    have rI3 := I3.out
    have rFR := FR.out
    have rO := O.out
    have rS := S.out
    have bw := BW.out
    have ltf := blk_lt FR.out
    have ba : Below w3.heap.size w3 (w3.alloc (.cells #[.int .i64 1] 3)) := below_alloc (Below.refl _ _) _
    have rN := RowAt.new 3 [.int .i64 1] w3
    replace rP := rP.below ba
    replace rI1 := rI1.below ba
    replace rI2 := rI2.below ba
    replace rI3 := rI3.below ba
    replace rFR := rFR.below ba
    replace rO := rO.below ba
    replace rS := rS.below ba
    replace bw := below_trans bw ba
    clear ba
    have kp : Keeps (w2.heap.size + 1 + 1 + 1 + 1) (w3.alloc (.cells #[.int .i64 1] 3)) ((w3.alloc (.cells #[.int .i64 1] 3)).setCell ⟨w2.heap.size + 1 + 1 + 1 + 1, 7, none⟩ (.slice (some ⟨w3.heap.size, 0, none⟩) 1 1)) := Keeps.put (Keeps.refl _ _) _ _
    replace rP := rP.keeps kp (by omega)
    replace rI1 := rI1.keeps kp (by omega)
    replace rI2 := rI2.keeps kp (by omega)
    replace rI3 := rI3.keeps kp (by omega)
    replace rFR := rFR.put 7 (.slice (some ⟨w3.heap.size, 0, none⟩) 1 1)
    simp only [List.set_cons_zero, List.set_cons_succ] at rFR
    replace rO := rO.keeps kp (by omega)
    replace rS := rS.keeps kp (by omega)
    replace rN := rN.keeps kp (by omega)
    replace bw := bw.setCell (p := ⟨w2.heap.size + 1 + 1 + 1 + 1, 7, none⟩) (by simp; omega) (.slice (some ⟨w3.heap.size, 0, none⟩) 1 1)
    clear kp
    have H := Lib.hid (state_any twoP (some ⟨gp, 0, none⟩) (some ⟨w2.heap.size + 1 + 1 + 1 + 1, 0, none⟩) (some ⟨w2.heap.size + 1 + 1 + 1 + 1 + 1, 0, none⟩) 2 2 1 ⟨[⟨0, 3, [5], []⟩, ⟨1, 2, [5, 2], [1]⟩], 4, [1], 0, 0⟩ ((w3.alloc (.cells #[.int .i64 1] 3)).setCell ⟨w2.heap.size + 1 + 1 + 1 + 1, 7, none⟩ (.slice (some ⟨w3.heap.size, 0, none⟩) 1 1)) (HL2.out.below bw) (RP2.out.below bw) (two_frames (f0 := ⟨0, 3, [5], []⟩) (f1 := ⟨1, 2, [5, 2], [1]⟩) rFR (intsL (xs := [5]) rI1 (by simp)) (reads_nil _ _) (intsL (xs := [5, 2]) rI2 (by simp)) (intsL (xs := [1]) rN (by simp))) (by simp) (intsL (xs := [1]) rO (by simp)))
    rw [ff11 hd1 hd2, twoP_len] at H
    unfold sttV at H
    simp only [len1, len2] at H
    have BF := Lib.hid (below_trans B2.out bw)
    have eP0 := rP.cell (k := 0) (by simp)
    simp only [List.getElem_cons_zero] at eP0
    have eS0 := rS.cell (k := 0) (by simp)
    simp only [List.getElem_cons_zero] at eS0
    have eS1 := rS.cell (k := 1) (by simp)
    simp only [List.getElem_cons_zero, List.getElem_cons_succ] at eS1
    have eS2 := rS.cell (k := 2) (by simp)
    simp only [List.getElem_cons_zero, List.getElem_cons_succ] at eS2
    have eS3 := rS.cell (k := 3) (by simp)
    simp only [List.getElem_cons_zero, List.getElem_cons_succ] at eS3
    have eS4 := rS.cell (k := 4) (by simp)
    simp only [List.getElem_cons_zero, List.getElem_cons_succ] at eS4
    clear bw rP rI1 rI2 rI3 rFR rO rS rN ltf
    go_wp2_with fail
    (with_reducible refine H.out.mono ?_)
    rintro e w9 ⟨rfl, hb9⟩
    go_wp2_with fail
    go_ret
    exact ⟨rfl, below_trans BF.out hb9⟩
  · skip
    have c366 := S.out.cell (k := 0) (by simp)
    simp only [List.getElem_cons_zero] at c366
    have z367 := S.out.free 0
    have c368 := S.out.cell (k := 1) (by simp)
    simp only [List.getElem_cons_zero, List.getElem_cons_succ] at c368
    have z369 := S.out.free 1
    have c370 := S.out.cell (k := 2) (by simp)
    simp only [List.getElem_cons_zero, List.getElem_cons_succ] at c370
    have z371 := S.out.free 2
    have c372 := S.out.cell (k := 3) (by simp)
    simp only [List.getElem_cons_zero, List.getElem_cons_succ] at c372
    have z373 := S.out.free 3
    have c374 := S.out.cell (k := 4) (by simp)
    simp only [List.getElem_cons_zero, List.getElem_cons_succ] at c374
    have z375 := S.out.free 4
    have c376 := FR.out.cell (k := 0) (by simp)
    simp only [List.getElem_cons_zero] at c376
    have z377 := FR.out.free 0
    have c378 := FR.out.cell (k := 1) (by simp)
    simp only [List.getElem_cons_zero, List.getElem_cons_succ] at c378
    have z379 := FR.out.free 1
    have c380 := FR.out.cell (k := 2) (by simp)
    simp only [List.getElem_cons_zero, List.getElem_cons_succ] at c380
    have z381 := FR.out.free 2
    have c382 := FR.out.cell (k := 3) (by simp)
    simp only [List.getElem_cons_zero, List.getElem_cons_succ] at c382
    have z383 := FR.out.free 3
    have c384 := FR.out.cell (k := 4) (by simp)
    simp only [List.getElem_cons_zero, List.getElem_cons_succ] at c384
    have z385 := FR.out.free 4
    have c386 := FR.out.cell (k := 5) (by simp)
    simp only [List.getElem_cons_zero, List.getElem_cons_succ] at c386
    have z387 := FR.out.free 5
    have c388 := FR.out.cell (k := 6) (by simp)
    simp only [List.getElem_cons_zero, List.getElem_cons_succ] at c388
    have z389 := FR.out.free 6
    have c390 := FR.out.cell (k := 7) (by simp)
    simp only [List.getElem_cons_zero, List.getElem_cons_succ] at c390
    have z391 := FR.out.free 7
    have c392 := O.out.cell (k := 0) (by simp)
    simp only [List.getElem_cons_zero] at c392
    have z393 := O.out.free 0
    have c394 := I3.out.cell (k := 0) (by simp)
    simp only [List.getElem_cons_zero] at c394
    have z395 := I3.out.free 0
    have YW := BW.out.size
    have rP := P.out
    have rI1 := I1.out
    have rI2 := I2.out
    have rI3 := I3.out
    have rFR := FR.out
    have rO := O.out
    have rS := S.out
    have bw := BW.out
    have kp : Keeps (w2.heap.size + 1 + 1 + 1) w3 (w3.setCell ⟨w2.heap.size + 1 + 1 + 1, 0, none⟩ (.int .i64 (2147483647 + (1 + m)))) := Keeps.put (Keeps.refl _ _) _ _
    replace rP := rP.keeps kp (by omega)
    replace rI1 := rI1.keeps kp (by omega)
    replace rI2 := rI2.keeps kp (by omega)
    replace rI3 := rI3.put 0 (.int .i64 (2147483647 + (1 + m)))
    simp only [List.set_cons_zero] at rI3
    replace rFR := rFR.keeps kp (by omega)
    replace rO := rO.keeps kp (by omega)
    replace rS := rS.keeps kp (by omega)
    replace bw := bw.setCell (p := ⟨w2.heap.size + 1 + 1 + 1, 0, none⟩) (by simp; omega) (.int .i64 (2147483647 + (1 + m)))
    clear kp
    have H := Lib.hid (state_any twoP (some ⟨gp, 0, none⟩) (some ⟨w2.heap.size + 1 + 1 + 1 + 1, 0, none⟩) (some ⟨w2.heap.size + 1 + 1 + 1 + 1 + 1, 0, none⟩) 2 2 1 ⟨[⟨0, 3, [5], []⟩, ⟨1, 2, [5, 2], [2147483647 + (1 + m), 2]⟩], 4, [1], 0, 0⟩ (w3.setCell ⟨w2.heap.size + 1 + 1 + 1, 0, none⟩ (.int .i64 (2147483647 + (1 + m)))) (HL2.out.below bw) (RP2.out.below bw) (two_frames (f0 := ⟨0, 3, [5], []⟩) (f1 := ⟨1, 2, [5, 2], [2147483647 + (1 + m), 2]⟩) rFR (intsL (xs := [5]) rI1 (by simp)) (reads_nil _ _) (intsL (xs := [5, 2]) rI2 (by simp)) (intsL (xs := [2147483647 + (1 + m), 2]) rI3 (by simp))) (by simp) (intsL (xs := [1]) rO (by simp)))
    rw [ff12 hd1 hd2, twoP_len] at H
    unfold sttV at H
    simp only [len1, len2] at H
    have BF := Lib.hid (below_trans B2.out bw)
    have eP0 := rP.cell (k := 0) (by simp)
    simp only [List.getElem_cons_zero] at eP0
    have eS0 := rS.cell (k := 0) (by simp)
    simp only [List.getElem_cons_zero] at eS0
    have eS1 := rS.cell (k := 1) (by simp)
    simp only [List.getElem_cons_zero, List.getElem_cons_succ] at eS1
    have eS2 := rS.cell (k := 2) (by simp)
    simp only [List.getElem_cons_zero, List.getElem_cons_succ] at eS2
    have eS3 := rS.cell (k := 3) (by simp)
    simp only [List.getElem_cons_zero, List.getElem_cons_succ] at eS3
    have eS4 := rS.cell (k := 4) (by simp)
    simp only [List.getElem_cons_zero, List.getElem_cons_succ] at eS4
    clear bw rP rI1 rI2 rI3 rFR rO rS
    go_wp2_with fail
    (with_reducible refine H.out.mono ?_)
    rintro e w9 ⟨rfl, hb9⟩
    go_wp2_with fail
    go_ret
    exact ⟨rfl, below_trans BF.out hb9⟩
  · skip
    have c396 := S.out.cell (k := 0) (by simp)
    simp only [List.getElem_cons_zero] at c396
    have z397 := S.out.free 0
    have c398 := S.out.cell (k := 1) (by simp)
    simp only [List.getElem_cons_zero, List.getElem_cons_succ] at c398
    have z399 := S.out.free 1
    have c400 := S.out.cell (k := 2) (by simp)
    simp only [List.getElem_cons_zero, List.getElem_cons_succ] at c400
    have z401 := S.out.free 2
    have c402 := S.out.cell (k := 3) (by simp)
    simp only [List.getElem_cons_zero, List.getElem_cons_succ] at c402
    have z403 := S.out.free 3
    have c404 := S.out.cell (k := 4) (by simp)
    simp only [List.getElem_cons_zero, List.getElem_cons_succ] at c404
    have z405 := S.out.free 4
    have c406 := FR.out.cell (k := 0) (by simp)
    simp only [List.getElem_cons_zero] at c406
    have z407 := FR.out.free 0
    have c408 := FR.out.cell (k := 1) (by simp)
    simp only [List.getElem_cons_zero, List.getElem_cons_succ] at c408
    have z409 := FR.out.free 1
    have c410 := FR.out.cell (k := 2) (by simp)
    simp only [List.getElem_cons_zero, List.getElem_cons_succ] at c410
    have z411 := FR.out.free 2
    have c412 := FR.out.cell (k := 3) (by simp)
    simp only [List.getElem_cons_zero, List.getElem_cons_succ] at c412
    have z413 := FR.out.free 3
    have c414 := FR.out.cell (k := 4) (by simp)
    simp only [List.getElem_cons_zero, List.getElem_cons_succ] at c414
    have z415 := FR.out.free 4
    have c416 := FR.out.cell (k := 5) (by simp)
    simp only [List.getElem_cons_zero, List.getElem_cons_succ] at c416
    have z417 := FR.out.free 5
    have c418 := FR.out.cell (k := 6) (by simp)
    simp only [List.getElem_cons_zero, List.getElem_cons_succ] at c418
    have z419 := FR.out.free 6
    have c420 := FR.out.cell (k := 7) (by simp)
    simp only [List.getElem_cons_zero, List.getElem_cons_succ] at c420
    have z421 := FR.out.free 7
    have c422 := O.out.cell (k := 0) (by simp)
    simp only [List.getElem_cons_zero] at c422
    have z423 := O.out.free 0
    have c424 := I3.out.cell (k := 0) (by simp)
    simp only [List.getElem_cons_zero] at c424
    have z425 := I3.out.free 0
    have hna := FR.out.below (below_alloc (Below.refl w3.heap.size w3) (.cells #[.int .i64 1] 3))
    have ca := hna.cell (k := 3) (by simp)
    have za := hna.free 3
    simp only [List.getElem_cons_zero, List.getElem_cons_succ] at ca
    clear hna
    have YW := BW.out.size
    have rP := P.out
    have rI1 := I1.out
    have rI2 := I2.out
    have rI3 := I3.out
    have rFR := FR.out
    have rO := O.out
    have rS := S.out
    have bw := BW.out
    have ltf := blk_lt FR.out
    have ba : Below w3.heap.size w3 (w3.alloc (.cells #[.int .i64 1] 3)) := below_alloc (Below.refl _ _) _
    have rN := RowAt.new 3 [.int .i64 1] w3
    replace rP := rP.below ba
    replace rI1 := rI1.below ba
    replace rI2 := rI2.below ba
    replace rI3 := rI3.below ba
    replace rFR := rFR.below ba
    replace rO := rO.below ba
    replace rS := rS.below ba
    replace bw := below_trans bw ba
    clear ba
    have kp : Keeps (w2.heap.size + 1 + 1 + 1 + 1) (w3.alloc (.cells #[.int .i64 1] 3)) ((w3.alloc (.cells #[.int .i64 1] 3)).setCell ⟨w2.heap.size + 1 + 1 + 1 + 1, 3, none⟩ (.slice (some ⟨w3.heap.size, 0, none⟩) 1 1)) := Keeps.put (Keeps.refl _ _) _ _
    replace rP := rP.keeps kp (by omega)
    replace rI1 := rI1.keeps kp (by omega)
    replace rI2 := rI2.keeps kp (by omega)
    replace rI3 := rI3.keeps kp (by omega)
    replace rFR := rFR.put 3 (.slice (some ⟨w3.heap.size, 0, none⟩) 1 1)
    simp only [List.set_cons_zero, List.set_cons_succ] at rFR
    replace rO := rO.keeps kp (by omega)
    replace rS := rS.keeps kp (by omega)
    replace rN := rN.keeps kp (by omega)
    replace bw := bw.setCell (p := ⟨w2.heap.size + 1 + 1 + 1 + 1, 3, none⟩) (by simp; omega) (.slice (some ⟨w3.heap.size, 0, none⟩) 1 1)
    clear kp
    have H := Lib.hid (state_any twoP (some ⟨gp, 0, none⟩) (some ⟨w2.heap.size + 1 + 1 + 1 + 1, 0, none⟩) (some ⟨w2.heap.size + 1 + 1 + 1 + 1 + 1, 0, none⟩) 2 2 1 ⟨[⟨0, 3, [5], [1]⟩, ⟨1, 2, [5, 2], [5, 2]⟩], 4, [1], 0, 0⟩ ((w3.alloc (.cells #[.int .i64 1] 3)).setCell ⟨w2.heap.size + 1 + 1 + 1 + 1, 3, none⟩ (.slice (some ⟨w3.heap.size, 0, none⟩) 1 1)) (HL2.out.below bw) (RP2.out.below bw) (two_frames (f0 := ⟨0, 3, [5], [1]⟩) (f1 := ⟨1, 2, [5, 2], [5, 2]⟩) rFR (intsL (xs := [5]) rI1 (by simp)) (intsL (xs := [1]) rN (by simp)) (intsL (xs := [5, 2]) rI2 (by simp)) (intsL (xs := [5, 2]) rI3 (by simp))) (by simp) (intsL (xs := [1]) rO (by simp)))
    rw [ff13 hd1 hd2, twoP_len] at H
    unfold sttV at H
    simp only [len1, len2] at H
    have BF := Lib.hid (below_trans B2.out bw)
    have eP0 := rP.cell (k := 0) (by simp)
    simp only [List.getElem_cons_zero] at eP0
    have eS0 := rS.cell (k := 0) (by simp)
    simp only [List.getElem_cons_zero] at eS0
    have eS1 := rS.cell (k := 1) (by simp)
    simp only [List.getElem_cons_zero, List.getElem_cons_succ] at eS1
    have eS2 := rS.cell (k := 2) (by simp)
    simp only [List.getElem_cons_zero, List.getElem_cons_succ] at eS2
    have eS3 := rS.cell (k := 3) (by simp)
    simp only [List.getElem_cons_zero, List.getElem_cons_succ] at eS3
    have eS4 := rS.cell (k := 4) (by simp)
    simp only [List.getElem_cons_zero, List.getElem_cons_succ] at eS4
    clear bw rP rI1 rI2 rI3 rFR rO rS rN ltf
    go_wp2_with fail
    (with_reducible refine H.out.mono ?_)
    rintro e w9 ⟨rfl, hb9⟩
    go_wp2_with fail
    go_ret
    exact ⟨rfl, below_trans BF.out hb9⟩
  · skip
    have c426 := S.out.cell (k := 0) (by simp)
    simp only [List.getElem_cons_zero] at c426
    have z427 := S.out.free 0
    have c428 := S.out.cell (k := 1) (by simp)
    simp only [List.getElem_cons_zero, List.getElem_cons_succ] at c428
    have z429 := S.out.free 1
    have c430 := S.out.cell (k := 2) (by simp)
    simp only [List.getElem_cons_zero, List.getElem_cons_succ] at c430
    have z431 := S.out.free 2
    have c432 := S.out.cell (k := 3) (by simp)
    simp only [List.getElem_cons_zero, List.getElem_cons_succ] at c432
    have z433 := S.out.free 3
    have c434 := S.out.cell (k := 4) (by simp)
    simp only [List.getElem_cons_zero, List.getElem_cons_succ] at c434
    have z435 := S.out.free 4
    have c436 := FR.out.cell (k := 0) (by simp)
    simp only [List.getElem_cons_zero] at c436
    have z437 := FR.out.free 0
    have c438 := FR.out.cell (k := 1) (by simp)
    simp only [List.getElem_cons_zero, List.getElem_cons_succ] at c438
    have z439 := FR.out.free 1
    have c440 := FR.out.cell (k := 2) (by simp)
    simp only [List.getElem_cons_zero, List.getElem_cons_succ] at c440
    have z441 := FR.out.free 2
    have c442 := FR.out.cell (k := 3) (by simp)
    simp only [List.getElem_cons_zero, List.getElem_cons_succ] at c442
    have z443 := FR.out.free 3
    have c444 := FR.out.cell (k := 4) (by simp)
    simp only [List.getElem_cons_zero, List.getElem_cons_succ] at c444
    have z445 := FR.out.free 4
    have c446 := FR.out.cell (k := 5) (by simp)
    simp only [List.getElem_cons_zero, List.getElem_cons_succ] at c446
    have z447 := FR.out.free 5
    have c448 := FR.out.cell (k := 6) (by simp)
    simp only [List.getElem_cons_zero, List.getElem_cons_succ] at c448
    have z449 := FR.out.free 6
    have c450 := FR.out.cell (k := 7) (by simp)
    simp only [List.getElem_cons_zero, List.getElem_cons_succ] at c450
    have z451 := FR.out.free 7
    have c452 := O.out.cell (k := 0) (by simp)
    simp only [List.getElem_cons_zero] at c452
    have z453 := O.out.free 0
    have c454 := I3.out.cell (k := 0) (by simp)
    simp only [List.getElem_cons_zero] at c454
    have z455 := I3.out.free 0
    have YW := BW.out.size
    have rP := P.out
    have rI1 := I1.out
    have rI2 := I2.out
    have rI3 := I3.out
    have rFR := FR.out
    have rO := O.out
    have rS := S.out
    have bw := BW.out
    have kp : Keeps (w2.heap.size + 1 + 1 + 1 + 1) w3 (w3.setCell ⟨w2.heap.size + 1 + 1 + 1 + 1, 1, none⟩ (.int .i64 4)) := Keeps.put (Keeps.refl _ _) _ _
    replace rP := rP.keeps kp (by omega)
    replace rI1 := rI1.keeps kp (by omega)
    replace rI2 := rI2.keeps kp (by omega)
    replace rI3 := rI3.keeps kp (by omega)
    replace rFR := rFR.put 1 (.int .i64 4)
    simp only [List.set_cons_zero, List.set_cons_succ] at rFR
    replace rO := rO.keeps kp (by omega)
    replace rS := rS.keeps kp (by omega)
    replace bw := bw.setCell (p := ⟨w2.heap.size + 1 + 1 + 1 + 1, 1, none⟩) (by simp; omega) (.int .i64 4)
    clear kp
    have H := Lib.hid (state_any twoP (some ⟨gp, 0, none⟩) (some ⟨w2.heap.size + 1 + 1 + 1 + 1, 0, none⟩) (some ⟨w2.heap.size + 1 + 1 + 1 + 1 + 1, 0, none⟩) 2 2 1 ⟨[⟨0, 4, [5], []⟩, ⟨1, 2, [5, 2], [5, 2]⟩], 4, [1], 0, 0⟩ (w3.setCell ⟨w2.heap.size + 1 + 1 + 1 + 1, 1, none⟩ (.int .i64 4)) (HL2.out.below bw) (RP2.out.below bw) (two_frames (f0 := ⟨0, 4, [5], []⟩) (f1 := ⟨1, 2, [5, 2], [5, 2]⟩) rFR (intsL (xs := [5]) rI1 (by simp)) (reads_nil _ _) (intsL (xs := [5, 2]) rI2 (by simp)) (intsL (xs := [5, 2]) rI3 (by simp))) (by simp) (intsL (xs := [1]) rO (by simp)))
    rw [ff14 hd1 hd2, twoP_len] at H
    unfold sttV at H
    simp only [len1, len2] at H
    have BF := Lib.hid (below_trans B2.out bw)
    have eP0 := rP.cell (k := 0) (by simp)
    simp only [List.getElem_cons_zero] at eP0
    have eS0 := rS.cell (k := 0) (by simp)
    simp only [List.getElem_cons_zero] at eS0
    have eS1 := rS.cell (k := 1) (by simp)
    simp only [List.getElem_cons_zero, List.getElem_cons_succ] at eS1
    have eS2 := rS.cell (k := 2) (by simp)
    simp only [List.getElem_cons_zero, List.getElem_cons_succ] at eS2
    have eS3 := rS.cell (k := 3) (by simp)
    simp only [List.getElem_cons_zero, List.getElem_cons_succ] at eS3
    have eS4 := rS.cell (k := 4) (by simp)
    simp only [List.getElem_cons_zero, List.getElem_cons_succ] at eS4
    clear bw rP rI1 rI2 rI3 rFR rO rS
    go_wp2_with fail
    (with_reducible refine H.out.mono ?_)
    rintro e w9 ⟨rfl, hb9⟩
    go_wp2_with fail
    go_ret
    exact ⟨rfl, below_trans BF.out hb9⟩
  · skip
    have c456 := S.out.cell (k := 0) (by simp)
    simp only [List.getElem_cons_zero] at c456
    have z457 := S.out.free 0
    have c458 := S.out.cell (k := 1) (by simp)
    simp only [List.getElem_cons_zero, List.getElem_cons_succ] at c458
    have z459 := S.out.free 1
    have c460 := S.out.cell (k := 2) (by simp)
    simp only [List.getElem_cons_zero, List.getElem_cons_succ] at c460
    have z461 := S.out.free 2
    have c462 := S.out.cell (k := 3) (by simp)
    simp only [List.getElem_cons_zero, List.getElem_cons_succ] at c462
    have z463 := S.out.free 3
    have c464 := S.out.cell (k := 4) (by simp)
    simp only [List.getElem_cons_zero, List.getElem_cons_succ] at c464
    have z465 := S.out.free 4
    have c466 := FR.out.cell (k := 0) (by simp)
    simp only [List.getElem_cons_zero] at c466
    have z467 := FR.out.free 0
    have c468 := FR.out.cell (k := 1) (by simp)
    simp only [List.getElem_cons_zero, List.getElem_cons_succ] at c468
    have z469 := FR.out.free 1
    have c470 := FR.out.cell (k := 2) (by simp)
    simp only [List.getElem_cons_zero, List.getElem_cons_succ] at c470
    have z471 := FR.out.free 2
    have c472 := FR.out.cell (k := 3) (by simp)
    simp only [List.getElem_cons_zero, List.getElem_cons_succ] at c472
    have z473 := FR.out.free 3
    have c474 := FR.out.cell (k := 4) (by simp)
    simp only [List.getElem_cons_zero, List.getElem_cons_succ] at c474
    have z475 := FR.out.free 4
    have c476 := FR.out.cell (k := 5) (by simp)
    simp only [List.getElem_cons_zero, List.getElem_cons_succ] at c476
    have z477 := FR.out.free 5
    have c478 := FR.out.cell (k := 6) (by simp)
    simp only [List.getElem_cons_zero, List.getElem_cons_succ] at c478
    have z479 := FR.out.free 6
    have c480 := FR.out.cell (k := 7) (by simp)
    simp only [List.getElem_cons_zero, List.getElem_cons_succ] at c480
    have z481 := FR.out.free 7
    have c482 := O.out.cell (k := 0) (by simp)
    simp only [List.getElem_cons_zero] at c482
    have z483 := O.out.free 0
    have c484 := I3.out.cell (k := 0) (by simp)
    simp only [List.getElem_cons_zero] at c484
    have z485 := I3.out.free 0
    have YW := BW.out.size
    have rP := P.out
    have rI1 := I1.out
    have rI2 := I2.out
    have rI3 := I3.out
    have rFR := FR.out
    have rO := O.out
    have rS := S.out
    have bw := BW.out
    have kp : Keeps (w2.heap.size + 1 + 1 + 1 + 1) w3 (w3.setCell ⟨w2.heap.size + 1 + 1 + 1 + 1, 0, none⟩ (.int .i64 (2 + (1 + m)))) := Keeps.put (Keeps.refl _ _) _ _
    replace rP := rP.keeps kp (by omega)
    replace rI1 := rI1.keeps kp (by omega)
    replace rI2 := rI2.keeps kp (by omega)
    replace rI3 := rI3.keeps kp (by omega)
    replace rFR := rFR.put 0 (.int .i64 (2 + (1 + m)))
    simp only [List.set_cons_zero] at rFR
    replace rO := rO.keeps kp (by omega)
    replace rS := rS.keeps kp (by omega)
    replace bw := bw.setCell (p := ⟨w2.heap.size + 1 + 1 + 1 + 1, 0, none⟩) (by simp; omega) (.int .i64 (2 + (1 + m)))
    clear kp
    have H := Lib.hid (state_any twoP (some ⟨gp, 0, none⟩) (some ⟨w2.heap.size + 1 + 1 + 1 + 1, 0, none⟩) (some ⟨w2.heap.size + 1 + 1 + 1 + 1 + 1, 0, none⟩) 2 2 1 ⟨[⟨2 + (1 + m), 3, [5], []⟩, ⟨1, 2, [5, 2], [5, 2]⟩], 4, [1], 0, 0⟩ (w3.setCell ⟨w2.heap.size + 1 + 1 + 1 + 1, 0, none⟩ (.int .i64 (2 + (1 + m)))) (HL2.out.below bw) (RP2.out.below bw) (two_frames (f0 := ⟨2 + (1 + m), 3, [5], []⟩) (f1 := ⟨1, 2, [5, 2], [5, 2]⟩) rFR (intsL (xs := [5]) rI1 (by simp)) (reads_nil _ _) (intsL (xs := [5, 2]) rI2 (by simp)) (intsL (xs := [5, 2]) rI3 (by simp))) (by simp) (intsL (xs := [1]) rO (by simp)))
    rw [ff15 hd1 hd2, twoP_len] at H
    unfold sttV at H
    simp only [len1, len2] at H
    have BF := Lib.hid (below_trans B2.out bw)
    have eP0 := rP.cell (k := 0) (by simp)
    simp only [List.getElem_cons_zero] at eP0
    have eS0 := rS.cell (k := 0) (by simp)
    simp only [List.getElem_cons_zero] at eS0
    have eS1 := rS.cell (k := 1) (by simp)
    simp only [List.getElem_cons_zero, List.getElem_cons_succ] at eS1
    have eS2 := rS.cell (k := 2) (by simp)
    simp only [List.getElem_cons_zero, List.getElem_cons_succ] at eS2
    have eS3 := rS.cell (k := 3) (by simp)
    simp only [List.getElem_cons_zero, List.getElem_cons_succ] at eS3
    have eS4 := rS.cell (k := 4) (by simp)
    simp only [List.getElem_cons_zero, List.getElem_cons_succ] at eS4
    clear bw rP rI1 rI2 rI3 rFR rO rS
    go_wp2_with fail
    (with_reducible refine H.out.mono ?_)
    rintro e w9 ⟨rfl, hb9⟩
    go_wp2_with fail
    go_ret
    exact ⟨rfl, below_trans BF.out hb9⟩
  · skip
    have c486 := S.out.cell (k := 0) (by simp)
    simp only [List.getElem_cons_zero] at c486
    have z487 := S.out.free 0
    have c488 := S.out.cell (k := 1) (by simp)
    simp only [List.getElem_cons_zero, List.getElem_cons_succ] at c488
    have z489 := S.out.free 1
    have c490 := S.out.cell (k := 2) (by simp)
    simp only [List.getElem_cons_zero, List.getElem_cons_succ] at c490
    have z491 := S.out.free 2
    have c492 := S.out.cell (k := 3) (by simp)
    simp only [List.getElem_cons_zero, List.getElem_cons_succ] at c492
    have z493 := S.out.free 3
    have c494 := S.out.cell (k := 4) (by simp)
    simp only [List.getElem_cons_zero, List.getElem_cons_succ] at c494
    have z495 := S.out.free 4
    have c496 := FR.out.cell (k := 0) (by simp)
    simp only [List.getElem_cons_zero] at c496
    have z497 := FR.out.free 0
    have c498 := FR.out.cell (k := 1) (by simp)
    simp only [List.getElem_cons_zero, List.getElem_cons_succ] at c498
    have z499 := FR.out.free 1
    have c500 := FR.out.cell (k := 2) (by simp)
    simp only [List.getElem_cons_zero, List.getElem_cons_succ] at c500
    have z501 := FR.out.free 2
    have c502 := FR.out.cell (k := 3) (by simp)
    simp only [List.getElem_cons_zero, List.getElem_cons_succ] at c502
    have z503 := FR.out.free 3
    have c504 := FR.out.cell (k := 4) (by simp)
    simp only [List.getElem_cons_zero, List.getElem_cons_succ] at c504
    have z505 := FR.out.free 4
    have c506 := FR.out.cell (k := 5) (by simp)
    simp only [List.getElem_cons_zero, List.getElem_cons_succ] at c506
    have z507 := FR.out.free 5
    have c508 := FR.out.cell (k := 6) (by simp)
    simp only [List.getElem_cons_zero, List.getElem_cons_succ] at c508
    have z509 := FR.out.free 6
    have c510 := FR.out.cell (k := 7) (by simp)
    simp only [List.getElem_cons_zero, List.getElem_cons_succ] at c510
    have z511 := FR.out.free 7
    have c512 := O.out.cell (k := 0) (by simp)
    simp only [List.getElem_cons_zero] at c512
    have z513 := O.out.free 0
    have c514 := I3.out.cell (k := 0) (by simp)
    simp only [List.getElem_cons_zero] at c514
    have z515 := I3.out.free 0
    have YW := BW.out.size
    have rP := P.out
    have rI1 := I1.out
    have rI2 := I2.out
    have rI3 := I3.out
    have rFR := FR.out
    have rO := O.out
    have rS := S.out
    have bw := BW.out
    have kp : Keeps (w2.heap.size + 1 + 1 + 1 + 1 + 1 + 1) w3 (w3.setCell ⟨w2.heap.size + 1 + 1 + 1 + 1 + 1 + 1, 3, none⟩ (.int .i64 (4 + (1 + m)))) := Keeps.put (Keeps.refl _ _) _ _
    replace rP := rP.keeps kp (by omega)
    replace rI1 := rI1.keeps kp (by omega)
    replace rI2 := rI2.keeps kp (by omega)
    replace rI3 := rI3.keeps kp (by omega)
    replace rFR := rFR.keeps kp (by omega)
    replace rO := rO.keeps kp (by omega)
    replace rS := rS.put 3 (.int .i64 (4 + (1 + m)))
    simp only [List.set_cons_zero, List.set_cons_succ] at rS
    replace bw := bw.setCell (p := ⟨w2.heap.size + 1 + 1 + 1 + 1 + 1 + 1, 3, none⟩) (by simp; omega) (.int .i64 (4 + (1 + m)))
    clear kp
    have kp : Keeps (w2.heap.size + 1 + 1 + 1 + 1 + 1 + 1) (w3.setCell ⟨w2.heap.size + 1 + 1 + 1 + 1 + 1 + 1, 3, none⟩ (.int .i64 (4 + (1 + m)))) ((w3.setCell ⟨w2.heap.size + 1 + 1 + 1 + 1 + 1 + 1, 3, none⟩ (.int .i64 (4 + (1 + m)))).setCell ⟨w2.heap.size + 1 + 1 + 1 + 1 + 1 + 1, 0, none⟩ (.slice none 0 0)) := Keeps.put (Keeps.refl _ _) _ _
    replace rP := rP.keeps kp (by omega)
    replace rI1 := rI1.keeps kp (by omega)
    replace rI2 := rI2.keeps kp (by omega)
    replace rI3 := rI3.keeps kp (by omega)
    replace rFR := rFR.keeps kp (by omega)
    replace rO := rO.keeps kp (by omega)
    replace rS := rS.put 0 (.slice none 0 0)
    simp only [List.set_cons_zero] at rS
    replace bw := bw.setCell (p := ⟨w2.heap.size + 1 + 1 + 1 + 1 + 1 + 1, 0, none⟩) (by simp; omega) (.slice none 0 0)
    clear kp
    have H := Lib.hid (state_any twoP (some ⟨gp, 0, none⟩) none (some ⟨w2.heap.size + 1 + 1 + 1 + 1 + 1, 0, none⟩) 2 0 1 ⟨[], 4, [1], 4 + (1 + m), 0⟩ ((w3.setCell ⟨w2.heap.size + 1 + 1 + 1 + 1 + 1 + 1, 3, none⟩ (.int .i64 (4 + (1 + m)))).setCell ⟨w2.heap.size + 1 + 1 + 1 + 1 + 1 + 1, 0, none⟩ (.slice none 0 0)) (HL2.out.below bw) (RP2.out.below bw) (⟨by simp, fun h => absurd h (by simp)⟩) (by simp) (intsL (xs := [1]) rO (by simp)))
    rw [ff16 hd1 hd2, twoP_len] at H
    unfold sttV at H
    simp only [len0, len1] at H
    have BF := Lib.hid (below_trans B2.out bw)
    have eP0 := rP.cell (k := 0) (by simp)
    simp only [List.getElem_cons_zero] at eP0
    have eS0 := rS.cell (k := 0) (by simp)
    simp only [List.getElem_cons_zero] at eS0
    have eS1 := rS.cell (k := 1) (by simp)
    simp only [List.getElem_cons_zero, List.getElem_cons_succ] at eS1
    have eS2 := rS.cell (k := 2) (by simp)
    simp only [List.getElem_cons_zero, List.getElem_cons_succ] at eS2
    have eS3 := rS.cell (k := 3) (by simp)
    simp only [List.getElem_cons_zero, List.getElem_cons_succ] at eS3
    have eS4 := rS.cell (k := 4) (by simp)
    simp only [List.getElem_cons_zero, List.getElem_cons_succ] at eS4
    clear bw rP rI1 rI2 rI3 rFR rO rS
    go_wp2_with fail
    (with_reducible refine H.out.mono ?_)
    rintro e w9 ⟨rfl, hb9⟩
    go_wp2_with fail
    go_ret
    exact ⟨rfl, below_trans BF.out hb9⟩
end Go.Proofs.YtdjlaglilokjeaaDoor
