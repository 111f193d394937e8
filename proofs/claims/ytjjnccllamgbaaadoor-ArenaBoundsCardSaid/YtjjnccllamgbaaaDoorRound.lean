/- The law ArenaRound, walked: a slot goes round, its generation rises by one with each round; an arena that is full answers full. Condition: errors.errorType holds the handle of 'error'. -/
import Derived.Test.YtjjnccllamgbaaaDoorArenas
import Derived.Test.YtjjnccllamgbaaaDoorForms
namespace Go.Proofs.YtjjnccllamgbaaaDoor
open Go.RowKit

theorem i64_andp (n p : Int) (q : Nat) (hp : (BitVec.ofInt 64 p).toNat = 2 ^ q - 1) (hq : q < 60) : bits .and .i64 n p = n % 2 ^ q := by
  have key : (BitVec.ofInt 64 n &&& BitVec.ofInt 64 p).toNat = (n % ((2 ^ 64 : Nat) : Int)).toNat % 2 ^ q := by
    rw [BitVec.toNat_and, BitVec.toNat_ofInt, hp, Nat.and_two_pow_sub_one_eq_mod]
  have hd : (2 ^ 64 : Int) = 2 ^ q * 2 ^ (64 - q) := by rw [← Int.pow_add]; congr 1; omega
  have h2 : ((2 ^ q : Nat) : Int) = (2 : Int) ^ q := by simp
  have h0 : 0 ≤ n % ((2 ^ 64 : Nat) : Int) := Int.emod_nonneg _ (by decide)
  have e : (((n % ((2 ^ 64 : Nat) : Int)).toNat % 2 ^ q : Nat) : Int) = n % 2 ^ q := by
    rw [Int.natCast_emod, Int.toNat_of_nonneg h0, h2, Int.emod_emod_of_dvd n (show (2 : Int) ^ q ∣ ((2 ^ 64 : Nat) : Int) from ⟨2 ^ (64 - q), hd⟩)]
  have hb : n % 2 ^ q < 2 ^ q := Int.emod_lt_of_pos _ (Int.pow_pos (by decide))
  have hb0 : 0 ≤ n % (2 : Int) ^ q := Int.emod_nonneg _ (Int.pow_ne_zero (by decide))
  have hl : (2 : Int) ^ q ≤ 2 ^ 60 := by
    have := Nat.pow_le_pow_right (n := 2) (by decide) (show q ≤ 60 by omega)
    rw [← h2]; exact_mod_cast this
  show IntKind.i64.wrap ((BitVec.ofInt 64 n &&& BitVec.ofInt 64 p).toNat : Nat) = n % 2 ^ q
  rw [key, e, IntKind.wrap_i64]
  omega
theorem i64_and15 (n : Int) : bits .and .i64 n 15 = n % 16 := i64_andp n 15 4 (by decide) (by decide)
theorem i64_and7 (n : Int) : bits .and .i64 n 7 = n % 8 := i64_andp n 7 3 (by decide) (by decide)

theorem wrap64_id {n : Int} (h0 : -9223372036854775808 ≤ n) (h1 : n ≤ 9223372036854775807) : wrap64 n = n := by unfold wrap64; omega
theorem rep_cons (k : Nat) (h : 1 ≤ k) : List.replicate k zSlot = ⟨1 - 1, 0, 0, 0⟩ :: List.replicate (k - 1) zSlot := by
  obtain ⟨j, rfl⟩ : ∃ j, k = j + 1 := ⟨k - 1, by omega⟩
  rfl
theorem take_head (i f : Int) (R : List Slot) (h0 : 1 ≤ i) (h1 : i ≤ 100) (f0 : 0 ≤ f) (f1 : f ≤ 7) : takeF (⟨i - 1, 0, 0, 0⟩ :: R) f = (⟨i, 1, f, 0⟩ :: R, (0, i, 0)) := by
  have e : firstFree (⟨i - 1, 0, 0, 0⟩ :: R) = some 0 := by simp [firstFree, List.findIdx?_cons]
  unfold takeF
  rw [if_neg (by omega), e]
  simp [slotAt, wrap64_id (n := i) (by omega) (by omega)]
theorem pub_head (n i s f p : Int) (R : List Slot) : pubF (⟨i, s, f, p⟩ :: R) 0 n = if i = n ∧ s = 1 then (⟨i, 2, f, p⟩ :: R, 0) else (⟨i, s, f, p⟩ :: R, 2300) := by
  unfold pubF atB
  by_cases h : i = n ∧ s = 1
  · rw [if_pos h, if_pos (by simp [h])]; simp [slotAt]
  · rw [if_neg h, if_neg (by simp; intro a; exact fun b => h ⟨a, b⟩)]
theorem ret_head (n q i s f p : Int) (R : List Slot) : retF (⟨i, s, f, p⟩ :: R) 0 n q = if i = n ∧ s = 2 ∧ 0 ≤ q then (⟨i, 3, f, q⟩ :: R, 0) else (⟨i, s, f, p⟩ :: R, 2300) := by
  unfold retF atB
  by_cases h : i = n ∧ s = 2 ∧ 0 ≤ q
  · rw [if_pos h, if_pos (by simp [h])]; simp [slotAt]
  · rw [if_neg h, if_neg (by simp; intro a b; by_cases c : 0 ≤ q; exact absurd ⟨a, b, c⟩ h; omega)]
theorem free_head (n i s f p : Int) (R : List Slot) : freeF (⟨i, s, f, p⟩ :: R) 0 n = if i = n ∧ (s = 1 ∨ s = 3) then (⟨n, 0, 0, 0⟩ :: R, 0) else (⟨i, s, f, p⟩ :: R, 2300) := by
  unfold freeF atB
  by_cases h : i = n ∧ (s = 1 ∨ s = 3)
  · rw [if_pos h, if_pos (by simp [h])]; simp
  · rw [if_neg h, if_neg (by simp; intro a; exact ⟨fun b => h ⟨a, .inl b⟩, fun b => h ⟨a, .inr b⟩⟩)]
/-- The arena after j of its slots have been taken for function 0: the first of generation a, the others of generation 1. -/
def filled (a : Int) (k j : Nat) : List Slot := (List.range k).map fun x => if x = 0 then (if x < j then ⟨wrap64 (a + 1), 1, 0, 0⟩ else ⟨a, 0, 0, 0⟩) else if x < j then ⟨1, 1, 0, 0⟩ else zSlot
theorem filled_zero (a : Int) (k : Nat) (h : 1 ≤ k) : filled a k 0 = ⟨a, 0, 0, 0⟩ :: List.replicate (k - 1) zSlot := by
  obtain ⟨j, rfl⟩ : ∃ j, k = j + 1 := ⟨k - 1, by omega⟩
  apply List.ext_getElem
  · simp [filled]
  · intro i h1 h2
    rcases i with _ | i <;> simp [filled]
theorem filled_first (a : Int) (k j : Nat) (hj : j < k) : firstFree (filled a k j) = some j := by
  refine free_some _ j (by simpa [filled] using hj) (fun x hx hxj => ?_) ?_
  · by_cases h0 : x = 0
    · subst h0; simp [filled, hxj]
    · simp [filled, hxj, h0]
  · by_cases h0 : j = 0 <;> simp [filled, h0, zSlot]
theorem filled_none (a : Int) (k : Nat) : firstFree (filled a k k) = none := by
  refine free_none _ k (by simp [filled]) (fun x hx hxj => ?_)
  by_cases h0 : x = 0
  · subst h0; simp [filled, hxj]
  · simp [filled, hxj, h0]
theorem filled_take (a : Int) (k j : Nat) (hj : j < k) : (takeF (filled a k j) 0).1 = filled a k (j + 1) ∧ (takeF (filled a k j) 0).2.2.2 = 0 := by
  unfold takeF
  rw [if_neg (by decide), filled_first a k j hj]
  refine ⟨?_, rfl⟩
  apply List.ext_getElem
  · simp [filled]
  · intro i h1 h2
    have hi : i < k := by simpa [filled] using h2
    by_cases e : i = j
    · subst e
      by_cases h0 : i = 0
      · subst h0; simp [filled, slotAt, hi]
      · simp [filled, slotAt, h0, hi, zSlot, wrap64_id (n := 1) (by decide) (by decide)]
    · have h3 : (i < j + 1) = (i < j) := by simp; omega
      have h4 : ¬ j = i := fun h => e h.symm
      simp [filled, h4, h3]
theorem filled_full (a : Int) (k : Nat) : takeF (filled a k k) 0 = (filled a k k, (0, 0, 2301)) := by
  unfold takeF; rw [if_neg (by decide), filled_none]

theorem slots_of (s : Int) : ∃ k : Nat, wrap64 (1 + wrap64 ((IntKind.u64.wrap s).tmod 8)) = k ∧ 1 ≤ k ∧ k ≤ 8 := by
  have h0 : IntKind.u64.wrap s = s % 18446744073709551616 := by rw [IntKind.wrap_u64]
  have h1 : 0 ≤ s % 18446744073709551616 := Int.emod_nonneg _ (by decide)
  rw [h0, Int.tmod_eq_emod_of_nonneg h1, wrap64_id (n := s % 18446744073709551616 % 8) (by omega) (by omega), wrap64_id (by omega) (by omega)]
  exact ⟨(1 + s % 18446744073709551616 % 8).toNat, by omega, by omega, by omega⟩

set_option maxRecDepth 100000 in
set_option maxHeartbeats 8000000 in
theorem round_yes (s t fn : Int) (w : World) (hG : Glob w) : Calls Tryd.prog 4 #[.int .i64 s, .int .i64 t, .int .i64 fn] w fun e w' => e = .returned (.bool true) ∧ Below w.heap.size w w' := by
  obtain ⟨m, hm, m0, m1⟩ : ∃ m : Int, bits .and .i64 t 15 = m ∧ 0 ≤ m ∧ m ≤ 15 := ⟨t % 16, i64_and15 t, by omega, by omega⟩
  obtain ⟨f, hf, f0, f1⟩ : ∃ m : Int, bits .and .i64 fn 7 = m ∧ 0 ≤ m ∧ m ≤ 7 := ⟨fn % 8, i64_and7 fn, by omega, by omega⟩
  go_enter Tryd.func4, Tryd.ntmps4
  go_wp2_with fail
  refine (awake_yes w hG).mono ?_
  rintro e w0 ⟨rfl, hB0⟩
  have G0 := Lib.hid (hG.below hB0)
  have B0 := Lib.hid hB0
  clear hB0
  go_wp2_with fail
  obtain ⟨k, hk, k1, k8⟩ := slots_of s
  simp only [hk]
  refine (new_ok k w0 k1 k8).mono ?_
  rintro e w1 ⟨g, gs, rfl, hA, hg, hgs, hB⟩
  rw [rep_cons k k1] at hA
  have m1 : Mine 58 w0 g gs _ w1 := ⟨hA, hgs, hB⟩
  clear hA hB
  have M1 := Lib.hid m1
  clear m1 hk
  go_wp2_with (go_at_call 10; refine (num_any _ _).mono ?_; rintro e w' ⟨rfl, rfl⟩)
  go_loopw [10] (fun i wr => ∃ i' : Int, i = .int .i64 i' ∧ 1 ≤ i' ∧ i' ≤ m + 2 ∧ Mine 58 w0 g gs (⟨i' - 1, 0, 0, 0⟩ :: List.replicate (k - 1) zSlot) wr) (fun i _ => (20 - intOf i).toNat)
  case atStart => exact ⟨1, rfl, by omega, by omega, M1.out⟩
  case round =>
    obtain ⟨i, rfl, i0, i1, m1⟩ := hrel
    clear M1
    have M1 := Lib.hid m1
    clear m1
    by_cases hlt : i ≤ m + 1
    · have hd1 : decide (i ≤ 1 + m) = true := by simp; omega
      have hd2 : (i != i) = false := by simp
      go_wp2_with fail
      refine (take_do M1.out f).mono ?_
      rintro e w2 ⟨rfl, m1, k1⟩
      rw [take_head i f _ i0 (by omega) f0 f1] at m1
      simp only [take_head i f _ i0 (by omega) f0 f1]
      have M2 := Lib.hid m1
      clear m1 k1 M1
      go_wp2_with (go_at_call 10; refine (num_any _ _).mono ?_; rintro e w' ⟨rfl, rfl⟩)
      refine (publish_do G0.out M2.out 0 (i + 1)).mono ?_
      rintro e w3 ⟨rfl, m1, k1⟩
      have e1 : pubF (⟨i, 1, f, 0⟩ :: List.replicate (k - 1) zSlot) 0 (i + 1) = (⟨i, 1, f, 0⟩ :: List.replicate (k - 1) zSlot, 2300) := by rw [pub_head]; exact if_neg (by omega)
      rw [e1] at m1
      simp only [e1]
      have M3 := Lib.hid m1
      clear m1 k1 e1 M2
      go_wp2_with (go_at_call 10; refine (num_any _ _).mono ?_; rintro e w' ⟨rfl, rfl⟩)
      refine (retire_do G0.out M3.out 0 i 1).mono ?_
      rintro e w4 ⟨rfl, m1, k1⟩
      have e1 : retF (⟨i, 1, f, 0⟩ :: List.replicate (k - 1) zSlot) 0 i 1 = (⟨i, 1, f, 0⟩ :: List.replicate (k - 1) zSlot, 2300) := by rw [ret_head]; exact if_neg (by omega)
      rw [e1] at m1
      simp only [e1]
      have M4 := Lib.hid m1
      clear m1 k1 e1 M3
      go_wp2_with (go_at_call 10; refine (num_any _ _).mono ?_; rintro e w' ⟨rfl, rfl⟩)
      refine (publish_do G0.out M4.out 0 i).mono ?_
      rintro e w5 ⟨rfl, m1, k1⟩
      have e1 : pubF (⟨i, 1, f, 0⟩ :: List.replicate (k - 1) zSlot) 0 i = (⟨i, 2, f, 0⟩ :: List.replicate (k - 1) zSlot, 0) := by rw [pub_head]; exact if_pos (by refine ⟨?_, ?_⟩ <;> omega)
      rw [e1] at m1
      simp only [e1]
      have M5 := Lib.hid m1
      clear m1 k1 e1 M4
      go_wp2_with (go_at_call 10; refine (num_any _ _).mono ?_; rintro e w' ⟨rfl, rfl⟩)
      refine (publish_do G0.out M5.out 0 i).mono ?_
      rintro e w6 ⟨rfl, m1, k1⟩
      have e1 : pubF (⟨i, 2, f, 0⟩ :: List.replicate (k - 1) zSlot) 0 i = (⟨i, 2, f, 0⟩ :: List.replicate (k - 1) zSlot, 2300) := by rw [pub_head]; exact if_neg (by omega)
      rw [e1] at m1
      simp only [e1]
      have M6 := Lib.hid m1
      clear m1 k1 e1 M5
      go_wp2_with (go_at_call 10; refine (num_any _ _).mono ?_; rintro e w' ⟨rfl, rfl⟩)
      refine (free_do G0.out M6.out 0 i).mono ?_
      rintro e w7 ⟨rfl, m1, k1⟩
      have e1 : freeF (⟨i, 2, f, 0⟩ :: List.replicate (k - 1) zSlot) 0 i = (⟨i, 2, f, 0⟩ :: List.replicate (k - 1) zSlot, 2300) := by rw [free_head]; exact if_neg (by omega)
      rw [e1] at m1
      simp only [e1]
      have M7 := Lib.hid m1
      clear m1 k1 e1 M6
      go_wp2_with (go_at_call 10; refine (num_any _ _).mono ?_; rintro e w' ⟨rfl, rfl⟩)
      refine (retire_do G0.out M7.out 0 i i).mono ?_
      rintro e w8 ⟨rfl, m1, k1⟩
      have e1 : retF (⟨i, 2, f, 0⟩ :: List.replicate (k - 1) zSlot) 0 i i = (⟨i, 3, f, i⟩ :: List.replicate (k - 1) zSlot, 0) := by rw [ret_head]; exact if_pos (by refine ⟨?_, ?_, ?_⟩ <;> omega)
      rw [e1] at m1
      simp only [e1]
      have M8 := Lib.hid m1
      clear m1 k1 e1 M7
      go_wp2_with (go_at_call 10; refine (num_any _ _).mono ?_; rintro e w' ⟨rfl, rfl⟩)
      refine (free_do G0.out M8.out 0 (i - 1)).mono ?_
      rintro e w9 ⟨rfl, m1, k1⟩
      have e1 : freeF (⟨i, 3, f, i⟩ :: List.replicate (k - 1) zSlot) 0 (i - 1) = (⟨i, 3, f, i⟩ :: List.replicate (k - 1) zSlot, 2300) := by rw [free_head]; exact if_neg (by omega)
      rw [e1] at m1
      simp only [e1]
      have M9 := Lib.hid m1
      clear m1 k1 e1 M8
      go_wp2_with (go_at_call 10; refine (num_any _ _).mono ?_; rintro e w' ⟨rfl, rfl⟩)
      refine (free_do G0.out M9.out 0 i).mono ?_
      rintro e w10 ⟨rfl, m1, k1⟩
      have e1 : freeF (⟨i, 3, f, i⟩ :: List.replicate (k - 1) zSlot) 0 i = (⟨i, 0, 0, 0⟩ :: List.replicate (k - 1) zSlot, 0) := by rw [free_head]; exact if_pos (by refine ⟨?_, ?_⟩ <;> omega)
      rw [e1] at m1
      simp only [e1]
      have M10 := Lib.hid m1
      clear m1 k1 e1 M9
      go_wp2_with (go_at_call 10; refine (num_any _ _).mono ?_; rintro e w' ⟨rfl, rfl⟩)
      refine (free_do G0.out M10.out 0 i).mono ?_
      rintro e w11 ⟨rfl, m1, k1⟩
      have e1 : freeF (⟨i, 0, 0, 0⟩ :: List.replicate (k - 1) zSlot) 0 i = (⟨i, 0, 0, 0⟩ :: List.replicate (k - 1) zSlot, 2300) := by rw [free_head]; exact if_neg (by omega)
      rw [e1] at m1
      simp only [e1]
      have M11 := Lib.hid m1
      clear m1 k1 e1 M10
      go_wp2_with (go_at_call 10; refine (num_any _ _).mono ?_; rintro e w' ⟨rfl, rfl⟩)
      go_roundw
      case rel => exact ⟨i + 1, rfl, by omega, by omega, by rw [Int.add_sub_cancel]; exact M11.out⟩
      case measure => simp only [intOf]; omega
    · have hd1 : decide (i ≤ 1 + m) = false := by simp; omega
      have m1 := M1.out
      rw [← filled_zero (i - 1) k k1] at m1
      clear M1
      have M1 := Lib.hid m1
      clear m1
      go_wp2_with fail
      go_loopw [23] (fun v wr => ∃ j : Nat, v = .int .i64 j ∧ j ≤ k ∧ Mine 58 w0 g gs (filled (i - 1) k j) wr) (fun v _ => k - (intOf v).toNat)
      case atStart => exact ⟨0, rfl, by omega, M1.out⟩
      case round =>
        obtain ⟨j, rfl, hj, m1⟩ := hrel
        clear M1
        have M1 := Lib.hid m1
        clear m1
        by_cases hlt : j < k
        · have hd1 : decide ((j : Int) < k) = true := by simp; omega
          obtain ⟨e0, e2⟩ := filled_take (i - 1) k j hlt
          go_wp2_with fail
          refine (take_do M1.out 0).mono ?_
          rintro e w2 ⟨rfl, m1, k1⟩
          rw [e0] at m1
          simp only [e2]
          have M2 := Lib.hid m1
          clear m1 k1 M1 e0 e2
          go_wp2_with (go_at_call 10; refine (num_any _ _).mono ?_; rintro e w' ⟨rfl, rfl⟩)
          go_roundw
          case rel => exact ⟨j + 1, rfl, by omega, M2.out⟩
          case measure => simp only [intOf]; omega
        · obtain rfl : j = k := by omega
          have hd1 : decide ((j : Int) < j) = false := by simp
          go_wp2_with fail
          refine (take_do M1.out 0).mono ?_
          rintro e w2 ⟨rfl, m1, k1⟩
          rw [filled_full] at m1
          simp only [filled_full]
          have M2 := Lib.hid (below_trans B0.out m1.B)
          clear m1 k1 M1
          go_wp2_with (go_at_call 10; refine (num_any _ _).mono ?_; rintro e w' ⟨rfl, rfl⟩)
          go_ret
          exact ⟨rfl, M2.out⟩
end Go.Proofs.YtjjnccllamgbaaaDoor
