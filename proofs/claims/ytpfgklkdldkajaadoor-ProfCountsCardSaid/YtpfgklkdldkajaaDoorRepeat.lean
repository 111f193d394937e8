/- slices.Repeat of one number, walked (math/bits.Mul too). Conditions: at most a hundred times; the row of one number is the call's own. -/
import Derived.Test.YtpfgklkdldkajaaDoorGen
import Derived.Lib.Mul64
import Derived.Laws.Bits64b
import Derived.Laws.CopyOwn
import Derived.Deep.RegionLaw
namespace Go.Proofs.YtpfgklkdldkajaaDoor
open Go.RowKit

theorem maskN (a : Nat) (ha : a < 18446744073709551616) : bits .and .u64 (a : Int) 4294967295 = ((a % 4294967296 : Nat) : Int) := by
  have h := bits_and_u64_nat a 4294967295 ha (by omega)
  have e : a &&& 4294967295 = a % 4294967296 := Nat.and_two_pow_sub_one_eq_mod a 32
  rw [e] at h
  exact h
set_option maxHeartbeats 1000000 in
theorem mul64_one (y : Nat) (hy : y < 4294967296) (w : World) : Calls Tryd.prog 119 #[.int .u64 1, .int .u64 y] w fun e w' => e = .returned (.tuple #[.int .u64 0, .int .u64 y]) ∧ w' = w := by
  have m1 : bits .and .u64 1 4294967295 = 1 := maskN 1 (by omega)
  have m2 : bits .and .u64 (y : Int) 4294967295 = y := by rw [maskN y (by omega)]; omega
  have d2 : (y : Int) / 4294967296 = 0 := by omega
  have w2 : IntKind.u64.wrap (y : Int) = y := by rw [IntKind.wrap_u64]; omega
  have m0 : bits .and .u64 0 4294967295 = 0 := maskN 0 (by omega)
  go_enter Tryd.func119, Tryd.ntmps119
  go_wp2
  go_ret2
  exact ⟨rfl, rfl⟩
set_option maxHeartbeats 1000000 in
theorem mul_one' (y : Nat) (hy : y < 4294967296) (w : World) : Calls Tryd.prog 100 #[.int .u64 1, .int .u64 y] w fun e w' => e = .returned (.tuple #[.int .u64 0, .int .u64 y]) ∧ w' = w := by
  have H := Lib.hid (mul64_one y hy w)
  have w2 : IntKind.u64.wrap (y : Int) = y := by rw [IntKind.wrap_u64]; omega
  go_enter Tryd.func100, Tryd.ntmps100
  go_wp2_with (go_at_call 119; refine H.out.mono ?_; rintro e w' ⟨rfl, hw⟩; rw [hw])
  go_ret2
  exact ⟨rfl, rfl⟩
theorem size_int : (Tryd.prog.info? 3).map (·.size) = some 1 := by kernel_rfl
def part1 (n m : Nat) : List Int := List.replicate m (-1) ++ List.replicate (n - m) 0
theorem part_splice {n m k : Nat} (hm : m + k ≤ n) : splice (intsV (part1 n m)) m (intsV (List.replicate k (-1))) = intsV (part1 n (m + k)) := by
  unfold splice part1 intsV
  rw [← List.map_take, ← List.map_drop, List.length_map, List.length_replicate, ← List.map_append, ← List.map_append]
  congr 1
  rw [List.take_append_of_le_length (by simp), List.take_of_length_le (by simp), List.drop_append, List.drop_of_length_le (by simp)]
  simp only [List.length_replicate, List.nil_append, List.drop_replicate]
  rw [← List.append_assoc, List.replicate_append_replicate]
  congr 2
  omega
theorem part_len (n m : Nat) (h : m ≤ n) : (part1 n m).length = n := by simp [part1]; omega
set_option maxRecDepth 100000 in
set_option maxHeartbeats 4000000 in
theorem repeat_any (b n : Nat) (w : World) (hb : RowAt 3 b (intsV [-1]) w) (h1 : 1 ≤ n) (hn : n ≤ 100) :
    Calls Tryd.prog 67 #[.slice (some ⟨b, 0, none⟩) 1 1, .int .i64 n] w fun e w' => ∃ g, e = .returned (.slice (some ⟨g, 0, none⟩) n n) ∧ RowAt 3 g (intsV (List.replicate n (-1))) w' ∧ w.heap.size ≤ g ∧ Below w.heap.size w w' := by
  have HM := Lib.hid (mul_one' n (by omega) w)
  have HR := Lib.hid hb
  have hmk := make_ints n hn w
  have hcm : ∀ j v, (intsV [-1])[j]? = some v → (w.alloc (.cells (intsV (List.replicate n 0)).toArray 3)).cell? ((⟨b, 0, none⟩ : Addr).add j) = some v := fun j v hj => by
    obtain ⟨hj', rfl⟩ := List.getElem?_eq_some_iff.1 hj
    rw [add_plain]
    exact (hb.below (below_alloc (Below.refl _ _) _)).cell hj'
  have HC := Lib.hid hcm
  have w2 : IntKind.u64.wrap (n : Int) = n := by rw [IntKind.wrap_u64]; omega
  have d1 : decide ((n : Int) < 0) = false := by simp
  clear hb hcm
  go_enter Tryd.func67, Tryd.ntmps67
  go_wp2_with fail
  refine HM.out.mono ?_
  rintro e w' ⟨rfl, rfl⟩
  go_wp2_with (with_reducible refine wpList_copy_splice rfl (.tmp 31) (.tmp 32) 32 32 rfl 3 Tryd.underlying32 size_int _ _ _ _ _ _ rfl rfl w'.heap.size 0 (intsV (List.replicate n 0)) 3 ?c1 (intsV [-1]) ?c2 ?c3 ?c4 ?c5 w'.heap.size w' ?c6 (Nat.le_refl _) ?_; rotate_left 6; intro w3 hg3 hb3)
  case c1 => exact blk_new w' _
  case c2 => exact (Nat.min_eq_left h1).symm
  case c3 =>
    intro _ j v hj
    rw [← add_plain]
    exact HC.out j v hj
  case c4 => simp [intsV]; omega
  case c5 => intro v hv; simp [intsV] at hv; subst hv; rfl
  case c6 => exact below_alloc (Below.refl _ _) _
  have r3 : RowAt 3 w'.heap.size (intsV (part1 n 1)) w3 := by
    have e := part_splice (n := n) (m := 0) (k := 1) (by omega)
    have h := hg3.out
    rw [show List.replicate n (0 : Int) = part1 n 0 by simp [part1], show [(-1 : Int)] = List.replicate 1 (-1) from rfl, e] at h
    exact h
  clear hmk hg3
  have HC := trivial
  have d2 : decide (9223372036854775807 < (n : Int)) = false := by simp; omega
  go_loopw [8] (fun i wr => ∃ m : Nat, 1 ≤ m ∧ m ≤ n ∧ i = .int .i64 m ∧ RowAt 3 w'.heap.size (intsV (part1 n m)) wr ∧ Below w'.heap.size w' wr) (fun i _ => n - (intOf i).toNat)
  case atStart => exact ⟨1, Nat.le_refl _, h1, rfl, r3, hb3⟩
  case round =>
    obtain ⟨m, hm1, hmn, rfl, hr, hB⟩ := hrel
    clear r3 hb3
    have HB := Lib.hid hB
    have HRR := Lib.hid hr
    clear hr hB
    by_cases hlt : m < n
    · go_upto_region 9 with fail
      obtain ⟨k, hk⟩ : ∃ k, Nat.min m (n - m) = k := ⟨_, rfl⟩
      have hk1 : k ≤ m := hk ▸ Nat.min_le_left _ _
      have hk2 : k ≤ n - m := hk ▸ Nat.min_le_right _ _
      have hk0 : 1 ≤ k := by rw [← hk]; exact Nat.le_min.2 ⟨hm1, by omega⟩
      have hcs : ∀ j v, (intsV (List.replicate k (-1)))[j]? = some v → wr.cell? ((⟨w'.heap.size, 0, none⟩ : Addr).add j) = some v := fun j v hj => by
        obtain ⟨hj', rfl⟩ := List.getElem?_eq_some_iff.1 hj
        have hj2 : j < k := by simpa [intsV] using hj'
        rw [add_plain, HRR.out.cell (by simp [intsV, part1]; omega)]
        simp only [intsV, part1, List.getElem_map]
        rw [List.getElem_append_left (by simp; omega)]; simp
      have HCS := Lib.hid hcs
      have HK := Lib.hid hk
      clear hcs hk
      have hcp : ∃ w4, (Builtin.copy_ #[32, 32] 3 #[.slice (some ⟨w'.heap.size, m, none⟩) (n - m) (n - m), .slice (some ⟨w'.heap.size, 0, none⟩) m n]).run Tryd.prog wr.drew = .ok (.int .i64 k) w4 ∧ RowAt 3 w'.heap.size (intsV (part1 n (m + k))) w4 ∧ Below w'.heap.size w' w4 := by
        have h := run_copy_row (P := Tryd.prog) wr.drew 32 32 3 3 w'.heap.size m (n - m) (n - m) ⟨w'.heap.size, 0, none⟩ m n _ 3 (intsV (List.replicate k (-1))) Tryd.underlying32 size_int HRR.out (by rw [intsV_len, List.length_replicate]; exact HK.out.symm) (by simpa using HCS.out) (by simp [intsV, part1]; omega) (by intro v hv; simp [intsV] at hv; rw [hv.2]; rfl)
        have e : goInt (intsV (List.replicate k (-1))).length = .int .i64 k := by rw [intsV_len, List.length_replicate]; rfl
        rw [e] at h
        refine ⟨_, h, ?_, ?_⟩
        · have e := setRow_heap wr.drew w'.heap.size (intsV (part1 n m)).toArray (splice (intsV (part1 n m)) m (intsV (List.replicate k (-1)))).toArray 3 (0, 0) HRR.out
          rw [part_splice (by omega)] at e
          unfold RowAt
          rw [← e]
          rw [← part_splice (by omega)]
          simp [splice]
        · exact below_setRow HB.out.drew (Nat.le_refl _) _
      obtain ⟨w4, hrun, hr4, hB4⟩ := hcp
      have HR4 := Lib.hid hr4
      have HB4 := Lib.hid hB4
      have hne : ¬ n = m := by omega
      clear hr4 hB4 HCS HK
      go_region
      go_wp2_with fail
      go_roundw
      case rel => exact ⟨m + k, by omega, by omega, by go_num, HR4.out, HB4.out⟩
      case measure => simp only [intOf]; omega
    · obtain rfl : m = n := by omega
      go_wp2_with fail
      go_ret
      exact ⟨_, rfl, by have := HRR.out; rwa [show part1 m m = List.replicate m (-1) by simp [part1]] at this, Nat.le_refl _, HB.out⟩
end Go.Proofs.YtpfgklkdldkajaaDoor
