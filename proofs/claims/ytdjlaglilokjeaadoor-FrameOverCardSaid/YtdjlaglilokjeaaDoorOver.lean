/- The law FrameOver, walked: of the states that are over a value alone has one. Condition: errors.errorType is laid. -/
import Derived.Test.YtdjlaglilokjeaaDoorAwake6
import Derived.Test.YtdjlaglilokjeaaDoorNums
namespace Go.Proofs.YtdjlaglilokjeaaDoor
open Go.RowKit

set_option maxRecDepth 100000 in
set_option maxHeartbeats 4000000 in
theorem frameOver_yes (done value fuel : Int) (W : World) (hl : Laid W) : Calls Tryd.prog 10 #[.int .i64 done, .int .i64 value, .int .i64 fuel] W (Ret (.bool true) W) := by
  have H := Lib.hid (awake6_any W hl)
  have HL := Lib.hid hl
  obtain ⟨k, hk, hk6⟩ := u64_rem done 6 (by decide) (by decide)
  replace hk : wrap64 ((IntKind.u64.wrap done).tmod 6) = k := hk
  obtain ⟨v, hv, hvn⟩ := num_32 value
  obtain ⟨f, hf, f0, f1⟩ : ∃ f : Int, bits .and .i64 fuel 1023 = f ∧ 0 ≤ f ∧ f ≤ 1023 := ⟨fuel % 1024, i64_m1023 _, by omega, by omega⟩
  clear hl
  go_enter Tryd.func10, Tryd.ntmps10
  go_wp2_with fail
  (with_reducible refine H.out.mono ?_)
  rintro e w1 ⟨rfl, hB⟩
  have B := Lib.hid hB
  clear hB H
  have R := Lib.hid (RowAt.new 56 [.slice none 0 0, .int .i64 f, .slice none 0 0, .int .i64 k, .int .i64 v] w1)
  have b2 := below_alloc (Below.refl w1.heap.size w1) (.cells #[.slice none 0 0, .int .i64 f, .slice none 0 0, .int .i64 k, .int .i64 v] 56)
  have BW := Lib.hid (below_trans B.out b2)
  clear b2
  go_wp2_with fail
  generalize hw2 : (w1.alloc (.cells #[.slice none 0 0, .int .i64 f, .slice none 0 0, .int .i64 k, .int .i64 v] 56)) = w2 at *
  clear hw2
  have HALL := Lib.hid (show ∀ W', Below w2.heap.size w2 W' → W'.cell? ⟨w1.heap.size, 0, none⟩ = some (.slice none 0 0) ∧ W'.cell? ⟨w1.heap.size, 1, none⟩ = some (.int .i64 f) ∧ W'.cell? ⟨w1.heap.size, 2, none⟩ = some (.slice none 0 0) ∧ W'.cell? ⟨w1.heap.size, 3, none⟩ = some (.int .i64 k) ∧ W'.cell? ⟨w1.heap.size, 4, none⟩ = some (.int .i64 v) ∧ Below w2.heap.size w2 W' from fun W' hb =>
    ⟨(R.out.below hb).cell (k := 0) (by simp), (R.out.below hb).cell (k := 1) (by simp), (R.out.below hb).cell (k := 2) (by simp), (R.out.below hb).cell (k := 3) (by simp), (R.out.below hb).cell (k := 4) (by simp), hb⟩)
  have HS := Lib.hid (show ∀ (g : Nat) (W' : World), Below w2.heap.size w2 W' → ReadsF W' (some ⟨g, 0, none⟩) twoP → Calls Tryd.prog 27 #[.agg #[.slice (some ⟨g, 0, none⟩) 2 2], .agg #[.slice none 0 0, .int .i64 f, .slice none 0 0, .int .i64 k, .int .i64 v]] W' (Ret (.bool (stateB twoP ⟨[], f, [], k, v⟩)) W') from fun g W' hb hr =>
    state_any twoP (some ⟨g, 0, none⟩) none none 2 0 0 ⟨[], f, [], k, v⟩ W' (HL.out.below (below_trans BW.out hb)) hr ⟨by simp, fun h => absurd h (by simp)⟩ (Nat.le_refl _) (reads_nil _ _))
  have HE := Lib.hid (show stateB twoP ⟨[], f, [], k, v⟩ = (decide ((k : Int) = 1) || (decide ((1 : Int) < k) && decide ((k : Int) ≤ 4) && decide (v = 0))) by
    unfold stateB overB runsB
    rw [show verifyOf twoP = 0 from by kernel_rfl]
    rcases (show k = 0 ∨ k = 1 ∨ k = 2 ∨ k = 3 ∨ k = 4 ∨ k = 5 by omega) with rfl | rfl | rfl | rfl | rfl | rfl <;> simp [f0, hvn] <;> omega)
  obtain ⟨x, hx⟩ : ∃ x, stateB twoP ⟨[], f, [], k, v⟩ = x := ⟨_, rfl⟩
  rw [hx] at HS HE
  clear hx hf R hvn
  go_region_held3 (fun W' => W'.cell? ⟨w1.heap.size, 0, none⟩ = some (.slice none 0 0) ∧ W'.cell? ⟨w1.heap.size, 1, none⟩ = some (.int .i64 f) ∧ W'.cell? ⟨w1.heap.size, 2, none⟩ = some (.slice none 0 0) ∧ W'.cell? ⟨w1.heap.size, 3, none⟩ = some (.int .i64 k) ∧ W'.cell? ⟨w1.heap.size, 4, none⟩ = some (.int .i64 v) ∧ Below w2.heap.size w2 W')
    (exact HALL.out _ (by repeat (first | assumption | exact Below.refl _ _ | refine below_drw ?_ | refine below_drew ?_ _ | refine below_alloc ?_ _)))
    (first | (go_at_call 29; (with_reducible refine (two_any _).mono ?_); rintro e w3 ⟨g, rfl, hr, hb⟩; have HW := below_trans (show Below w2.heap.size w2 _ from (by repeat (first | assumption | exact Below.refl _ _ | refine below_drw ?_ | refine below_drew ?_ _ | refine below_alloc ?_ _))) hb; clear hb) |
      (go_at_call 27; (with_reducible refine (HS.out _ _ ?_ ?_).mono ?_); (· exact (by repeat (first | assumption | exact Below.refl _ _ | refine below_drw ?_ | refine below_drew ?_ _ | refine below_alloc ?_ _))); (· first | exact hr | exact hr.below (below_drw (Below.refl _ _))); rintro e w4 ⟨rfl, hb⟩; have HW4 := below_trans (show Below w2.heap.size w2 _ from (by repeat (first | assumption | exact Below.refl _ _ | refine below_drw ?_ | refine below_drew ?_ _ | refine below_alloc ?_ _))) hb; clear hb))
  all_goals
    have HW5 := Lib.hid (below_trans BW.out HW4)
    clear HW HW4 HS HALL
    go_wp2_with fail
  all_goals go_ret
  all_goals refine ⟨ret_bool ?_, HW5.out⟩
  all_goals rw [HE.out]
  all_goals clear HE HW5 BW B HL hv
  all_goals first | (simp_all; done) | (simp_all; omega) | (simp_all [beq_dec]; done)
end Go.Proofs.YtdjlaglilokjeaaDoor
