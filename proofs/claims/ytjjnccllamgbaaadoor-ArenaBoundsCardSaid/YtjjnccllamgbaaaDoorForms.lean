/- The law ArenaForms, walked: slots, generations, functions that are none turn nothing. Condition: errors.errorType holds the handle of 'error'. -/
import Derived.Test.YtjjnccllamgbaaaDoorAwake
namespace Go.Proofs.YtjjnccllamgbaaaDoor
open Go.RowKit

theorem i64_and1023 (n : Int) : bits .and .i64 n 1023 = n % 1024 := by
  have h127 : (BitVec.ofInt 64 1023).toNat = 2 ^ 10 - 1 := by decide
  have key : (BitVec.ofInt 64 n &&& BitVec.ofInt 64 1023).toNat = (n % ((2 ^ 64 : Nat) : Int)).toNat % 2 ^ 10 := by
    rw [BitVec.toNat_and, BitVec.toNat_ofInt, h127, Nat.and_two_pow_sub_one_eq_mod]
  show IntKind.i64.wrap ((BitVec.ofInt 64 n &&& BitVec.ofInt 64 1023).toNat : Nat) = n % 1024
  rw [key, IntKind.wrap_i64]
  omega
theorem take_bad {xs : List Slot} {f : Int} (h : f < 0 ∨ 8 ≤ f) : takeF xs f = (xs, (0, 0, 2300)) := by unfold takeF; rw [if_pos h]
theorem pub_bad {xs : List Slot} {s n : Int} (h : atB xs s n [1] = false) : pubF xs s n = (xs, 2300) := by unfold pubF; rw [if_neg (by simp [h])]
theorem atB_low {xs : List Slot} {s n : Int} {st : List Int} (h : s < 0 ∨ xs.length ≤ s) : atB xs s n st = false := by
  unfold atB
  by_cases h0 : 0 ≤ s
  · rw [List.getElem?_eq_none (by omega)]; simp
  · simp [h0]
theorem ret_neg {xs : List Slot} {s n q : Int} (h : q < 0) : retF xs s n q = (xs, 2300) := by unfold retF; rw [if_neg (by simp; omega)]

theorem OwnS.keeps {w w1 : World} {base g gs cap : Nat} {xs : List Slot} (h : OwnS w base g cap xs) (hk : Keeps gs w w1) (hne : g ≠ gs) : OwnS w1 base g cap xs :=
  ⟨h.own.kept hk (.inr (by simpa [Value.ownBlock] using hne))⟩

set_option maxRecDepth 100000 in
set_option maxHeartbeats 4000000 in
theorem forms_yes (x : Int) (w : World) (hG : Glob w) : Calls Tryd.prog 5 #[.int .i64 x] w fun e w' => e = .returned (.bool true) ∧ Below w.heap.size w w' := by
  obtain ⟨m, hm, h0, h1⟩ : ∃ m : Int, bits .and .i64 x 1023 = m ∧ 0 ≤ m ∧ m ≤ 1023 := ⟨x % 1024, i64_and1023 x, by omega, by omega⟩
  go_enter Tryd.func5, Tryd.ntmps5
  go_wp2_with fail
  refine (awake_yes w hG).mono ?_
  rintro e w0 ⟨rfl, hB0⟩
  have G0 := Lib.hid (hG.below hB0)
  have B0 := Lib.hid hB0
  clear hB0
  go_wp2_with fail
  refine (new_bad _ _ (by omega)).mono ?_
  rintro e w1 ⟨rfl, rfl⟩
  go_wp2_with fail
  refine (new_bad _ _ (by omega)).mono ?_
  rintro e w1 ⟨rfl, rfl⟩
  go_wp2_with fail
  refine (new_ok 2 w0 (by omega) (by omega)).mono ?_
  rintro e w1 ⟨g, gs, rfl, hA, hg, hgs, hB⟩
  have m1 : Mine 58 w0 g gs [zSlot, zSlot] w1 := ⟨hA, hgs, hB⟩
  clear hA hB
  have M1 := Lib.hid m1
  clear m1
  go_wp2_with (go_at_call 10; go_in)
  refine (take_do M1.out 3).mono ?_
  rintro e w2 ⟨rfl, m1, k1⟩
  clear k1
  have e1 : takeF [zSlot, zSlot] 3 = ([⟨1, 1, 3, 0⟩, zSlot], (0, 1, 0)) := by kernel_rfl
  rw [e1] at m1
  simp only [e1]
  clear e1 M1
  have M1 := Lib.hid m1
  clear m1
  go_wp2_with (go_at_call 10; go_in)
  refine (take_do M1.out 4).mono ?_
  rintro e w3 ⟨rfl, m1, k1⟩
  clear k1
  have e1 : takeF [⟨1, 1, 3, 0⟩, zSlot] 4 = ([⟨1, 1, 3, 0⟩, ⟨1, 1, 4, 0⟩], (1, 1, 0)) := by kernel_rfl
  rw [e1] at m1
  simp only [e1]
  clear e1 M1
  have M1 := Lib.hid m1
  clear m1
  go_wp2_with (go_at_call 10; go_in)
  refine (publish_do G0.out M1.out 1 1).mono ?_
  rintro e w4 ⟨rfl, m1, k1⟩
  clear k1
  have e1 : pubF [⟨1, 1, 3, 0⟩, ⟨1, 1, 4, 0⟩] 1 1 = ([⟨1, 1, 3, 0⟩, ⟨1, 2, 4, 0⟩], 0) := by kernel_rfl
  rw [e1] at m1
  simp only [e1]
  clear e1 M1
  have M1 := Lib.hid m1
  clear m1
  go_wp2_with (go_at_call 10; go_in)
  refine (slots_do M1.out (by simp)).mono ?_
  rintro e w5 ⟨g2, cap, rfl, hO, hB⟩
  have hgn : g2 ≠ gs := by have h1 := blk_lt M1.out.at_.s; have h2 := hO.own.lt g2 rfl; omega
  have m1 := M1.out.below hB
  clear M1 hB
  have M1 := Lib.hid m1
  have HO := Lib.hid hO
  clear m1 hO
  have hne : g2 ≠ gs := hgn
  go_wp2_with (go_at_call 10; go_in)
  refine (take_do M1.out (7 + (1 + m))).mono ?_
  rintro e w6 ⟨rfl, m1, k1⟩
  have HO2 := Lib.hid (HO.out.keeps k1 hne)
  clear HO k1
  have HO := HO2
  clear HO2
  have e1 : takeF [⟨1, 1, 3, 0⟩, ⟨1, 2, 4, 0⟩] (7 + (1 + m)) = ([⟨1, 1, 3, 0⟩, ⟨1, 2, 4, 0⟩], (0, 0, 2300)) := take_bad (by omega)
  rw [e1] at m1
  simp only [e1]
  clear e1 M1
  have M1 := Lib.hid m1
  clear m1
  go_wp2_with (go_at_call 10; go_in)
  refine (take_do M1.out (-(1 + m))).mono ?_
  rintro e w7 ⟨rfl, m1, k1⟩
  have HO2 := Lib.hid (HO.out.keeps k1 hne)
  clear HO k1
  have HO := HO2
  clear HO2
  have e1 : takeF [⟨1, 1, 3, 0⟩, ⟨1, 2, 4, 0⟩] (-(1 + m)) = ([⟨1, 1, 3, 0⟩, ⟨1, 2, 4, 0⟩], (0, 0, 2300)) := take_bad (by omega)
  rw [e1] at m1
  simp only [e1]
  clear e1 M1
  have M1 := Lib.hid m1
  clear m1
  go_wp2_with (go_at_call 10; go_in)
  refine (publish_do G0.out M1.out (2 + (1 + m)) 1).mono ?_
  rintro e w8 ⟨rfl, m1, k1⟩
  have HO2 := Lib.hid (HO.out.keeps k1 hne)
  clear HO k1
  have HO := HO2
  clear HO2
  have e1 : pubF [⟨1, 1, 3, 0⟩, ⟨1, 2, 4, 0⟩] (2 + (1 + m)) 1 = ([⟨1, 1, 3, 0⟩, ⟨1, 2, 4, 0⟩], 2300) := pub_bad (atB_low (by simp; omega))
  rw [e1] at m1
  simp only [e1]
  clear e1 M1
  have M1 := Lib.hid m1
  clear m1
  go_wp2_with (go_at_call 10; go_in)
  refine (publish_do G0.out M1.out (-(1 + m)) 1).mono ?_
  rintro e w9 ⟨rfl, m1, k1⟩
  have HO2 := Lib.hid (HO.out.keeps k1 hne)
  clear HO k1
  have HO := HO2
  clear HO2
  have e1 : pubF [⟨1, 1, 3, 0⟩, ⟨1, 2, 4, 0⟩] (-(1 + m)) 1 = ([⟨1, 1, 3, 0⟩, ⟨1, 2, 4, 0⟩], 2300) := pub_bad (atB_low (by simp; omega))
  rw [e1] at m1
  simp only [e1]
  clear e1 M1
  have M1 := Lib.hid m1
  clear m1
  go_wp2_with (go_at_call 10; go_in)
  refine (publish_do G0.out M1.out 0 (1 + (1 + m))).mono ?_
  rintro e w10 ⟨rfl, m1, k1⟩
  have HO2 := Lib.hid (HO.out.keeps k1 hne)
  clear HO k1
  have HO := HO2
  clear HO2
  have e1 : pubF [⟨1, 1, 3, 0⟩, ⟨1, 2, 4, 0⟩] 0 (1 + (1 + m)) = ([⟨1, 1, 3, 0⟩, ⟨1, 2, 4, 0⟩], 2300) := pub_bad (by simp [atB]; omega)
  rw [e1] at m1
  simp only [e1]
  clear e1 M1
  have M1 := Lib.hid m1
  clear m1
  go_wp2_with (go_at_call 10; go_in)
  refine (publish_do G0.out M1.out 1 1).mono ?_
  rintro e w11 ⟨rfl, m1, k1⟩
  have HO2 := Lib.hid (HO.out.keeps k1 hne)
  clear HO k1
  have HO := HO2
  clear HO2
  have e1 : pubF [⟨1, 1, 3, 0⟩, ⟨1, 2, 4, 0⟩] 1 1 = ([⟨1, 1, 3, 0⟩, ⟨1, 2, 4, 0⟩], 2300) := by kernel_rfl
  rw [e1] at m1
  simp only [e1]
  clear e1 M1
  have M1 := Lib.hid m1
  clear m1
  go_wp2_with (go_at_call 10; go_in)
  refine (retire_do G0.out M1.out 0 1 1).mono ?_
  rintro e w12 ⟨rfl, m1, k1⟩
  have HO2 := Lib.hid (HO.out.keeps k1 hne)
  clear HO k1
  have HO := HO2
  clear HO2
  have e1 : retF [⟨1, 1, 3, 0⟩, ⟨1, 2, 4, 0⟩] 0 1 1 = ([⟨1, 1, 3, 0⟩, ⟨1, 2, 4, 0⟩], 2300) := by kernel_rfl
  rw [e1] at m1
  simp only [e1]
  clear e1 M1
  have M1 := Lib.hid m1
  clear m1
  go_wp2_with (go_at_call 10; go_in)
  refine (retire_do G0.out M1.out 1 1 (-(1 + m))).mono ?_
  rintro e w13 ⟨rfl, m1, k1⟩
  have HO2 := Lib.hid (HO.out.keeps k1 hne)
  clear HO k1
  have HO := HO2
  clear HO2
  have e1 : retF [⟨1, 1, 3, 0⟩, ⟨1, 2, 4, 0⟩] 1 1 (-(1 + m)) = ([⟨1, 1, 3, 0⟩, ⟨1, 2, 4, 0⟩], 2300) := ret_neg (by omega)
  rw [e1] at m1
  simp only [e1]
  clear e1 M1
  have M1 := Lib.hid m1
  clear m1
  go_wp2_with (go_at_call 10; go_in)
  refine (retire_do G0.out M1.out 1 0 1).mono ?_
  rintro e w14 ⟨rfl, m1, k1⟩
  have HO2 := Lib.hid (HO.out.keeps k1 hne)
  clear HO k1
  have HO := HO2
  clear HO2
  have e1 : retF [⟨1, 1, 3, 0⟩, ⟨1, 2, 4, 0⟩] 1 0 1 = ([⟨1, 1, 3, 0⟩, ⟨1, 2, 4, 0⟩], 2300) := by kernel_rfl
  rw [e1] at m1
  simp only [e1]
  clear e1 M1
  have M1 := Lib.hid m1
  clear m1
  go_wp2_with (go_at_call 10; go_in)
  refine (free_do G0.out M1.out 1 1).mono ?_
  rintro e w15 ⟨rfl, m1, k1⟩
  have HO2 := Lib.hid (HO.out.keeps k1 hne)
  clear HO k1
  have HO := HO2
  clear HO2
  have e1 : freeF [⟨1, 1, 3, 0⟩, ⟨1, 2, 4, 0⟩] 1 1 = ([⟨1, 1, 3, 0⟩, ⟨1, 2, 4, 0⟩], 2300) := by kernel_rfl
  rw [e1] at m1
  simp only [e1]
  clear e1 M1
  have M1 := Lib.hid m1
  clear m1
  go_wp2_with (go_at_call 10; go_in)
  refine (free_do G0.out M1.out 0 2).mono ?_
  rintro e w16 ⟨rfl, m1, k1⟩
  have HO2 := Lib.hid (HO.out.keeps k1 hne)
  clear HO k1
  have HO := HO2
  clear HO2
  have e1 : freeF [⟨1, 1, 3, 0⟩, ⟨1, 2, 4, 0⟩] 0 2 = ([⟨1, 1, 3, 0⟩, ⟨1, 2, 4, 0⟩], 2300) := by kernel_rfl
  rw [e1] at m1
  simp only [e1]
  clear e1 M1
  have M1 := Lib.hid m1
  clear m1
  go_wp2_with (go_at_call 10; go_in)
  refine (free_do G0.out M1.out 2 1).mono ?_
  rintro e w17 ⟨rfl, m1, k1⟩
  have HO2 := Lib.hid (HO.out.keeps k1 hne)
  clear HO k1
  have HO := HO2
  clear HO2
  have e1 : freeF [⟨1, 1, 3, 0⟩, ⟨1, 2, 4, 0⟩] 2 1 = ([⟨1, 1, 3, 0⟩, ⟨1, 2, 4, 0⟩], 2300) := by kernel_rfl
  rw [e1] at m1
  simp only [e1]
  clear e1 M1
  have M1 := Lib.hid m1
  clear m1
  go_wp2_with (go_at_call 10; go_in)
  refine wp_loop_rounds 11 ?_
  iterate 11 (rw [rounds_succ]; go_wp2_with fail)
  refine (take_nil _ _).mono ?_
  rintro e w18 ⟨rfl, rfl⟩
  have b1 : Below w17.heap.size w17 (w17.alloc (.cells #[.int .i64 2300, .int .i64 2300, .int .i64 2300, .int .i64 2300, .int .i64 2300, .int .i64 2300, .int .i64 2300, .int .i64 2300, .int .i64 2300, .int .i64 2300] 3)) := below_alloc (Below.refl _ _) _
  have m1 := M1.out.below b1
  have HO2 := Lib.hid (HO.out.below b1)
  clear M1 b1 HO
  have M1 := Lib.hid m1
  clear m1
  go_wp2_with (go_at_call 10; go_in)
  refine (slots_do M1.out (by simp)).mono ?_
  rintro e w19 ⟨g3, cap3, rfl, hO3, hB3⟩
  have HS := Lib.hid (same_slots (some ⟨g3, 0, none⟩) (some ⟨g2, 0, none⟩) cap3 cap _ _ w19 (hO3.reads (by simp)) ((HO2.out.below hB3).reads (by simp)))
  have m1 := M1.out.below hB3
  have HB := Lib.hid (below_trans B0.out m1.B)
  clear M1 HO2 hO3 hB3 m1
  go_wp2_with (go_at_call 10; go_in)
  refine HS.out.mono ?_
  rintro e w20 ⟨⟨b, rfl, hb⟩, n, rfl⟩
  obtain rfl : b = true := hb.2 rfl
  have HB2 := Lib.hid (below_drewN HB.out n)
  clear hb HS HB
  go_wp2_with (go_at_call 10; go_in)
  refine (publish_nil _ _ _ (hG.below HB2.out)).mono ?_
  rintro e w21 ⟨rfl, hB⟩
  have HB3 := Lib.hid (below_trans HB2.out hB)
  clear HB2 hB
  go_wp2_with (go_at_call 10; go_in)
  refine (retire_nil _ _ _ _ (hG.below HB3.out)).mono ?_
  rintro e w22 ⟨rfl, hB⟩
  have HB4 := Lib.hid (below_trans HB3.out hB)
  clear HB3 hB
  go_wp2_with (go_at_call 10; go_in)
  go_ret
  exact ⟨rfl, HB4.out⟩
end Go.Proofs.YtjjnccllamgbaaaDoor
