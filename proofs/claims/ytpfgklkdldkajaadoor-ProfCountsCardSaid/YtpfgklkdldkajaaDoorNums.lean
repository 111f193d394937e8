/- Numbers: remainders, masks, 32 bits. Plain lemmas. -/
import Derived.Test.YtpfgklkdldkajaaDoorLawKit
namespace Go.Proofs.YtpfgklkdldkajaaDoor
open Go.RowKit

theorem wrap64_in {n : Int} (h0 : -9223372036854775808 ≤ n) (h1 : n ≤ 9223372036854775807) : wrap64 n = n := by unfold wrap64; omega
theorem u64_rem (v : Int) (m : Nat) (h0 : 0 < m) (hm : m < 4294967296) : ∃ p : Nat, wrap64 ((IntKind.u64.wrap v).tmod m) = p ∧ p < m := by
  have h0' : IntKind.u64.wrap v = v % 18446744073709551616 := by rw [IntKind.wrap_u64]
  have h2 : 0 ≤ v % 18446744073709551616 := by omega
  have h3 : 0 ≤ v % 18446744073709551616 % (m : Int) := Int.emod_nonneg _ (by omega)
  have h4 : v % 18446744073709551616 % (m : Int) < m := Int.emod_lt_of_pos _ (by omega)
  refine ⟨((v % 18446744073709551616) % m).toNat, ?_, by omega⟩
  rw [h0', Int.tmod_eq_emod_of_nonneg h2, wrap64_in (by omega) (by omega)]
  omega
theorem i64_andq (n p : Int) (q : Nat) (hp : (BitVec.ofInt 64 p).toNat = 2 ^ q - 1) (hq : q < 60) : bits .and .i64 n p = n % 2 ^ q := by
  have key : (BitVec.ofInt 64 n &&& BitVec.ofInt 64 p).toNat = (n % ((2 ^ 64 : Nat) : Int)).toNat % 2 ^ q := by
    rw [BitVec.toNat_and, BitVec.toNat_ofInt, hp, Nat.and_two_pow_sub_one_eq_mod]
  have hd : (2 ^ 64 : Int) = 2 ^ q * 2 ^ (64 - q) := by rw [← Int.pow_add]; congr 1; omega
  have h2 : ((2 ^ q : Nat) : Int) = (2 : Int) ^ q := by simp
  have h0 : 0 ≤ n % ((2 ^ 64 : Nat) : Int) := Int.emod_nonneg _ (by decide)
  have e : (((n % ((2 ^ 64 : Nat) : Int)).toNat % 2 ^ q : Nat) : Int) = n % 2 ^ q := by
    rw [Int.natCast_emod, Int.toNat_of_nonneg h0, h2, Int.emod_emod_of_dvd n (show (2 : Int) ^ q ∣ ((2 ^ 64 : Nat) : Int) from ⟨2 ^ (64 - q), hd⟩)]
  have hb : n % 2 ^ q < 2 ^ q := Int.emod_lt_of_pos _ (Int.pow_pos (by decide))
  have hb0 : 0 ≤ n % (2 : Int) ^ q := Int.emod_nonneg _ (Int.pow_ne_zero (by decide))
  have hl : (2 : Int) ^ q ≤ 2 ^ 60 := by
    have := Nat.pow_le_pow_right (n := 2) (by decide) (show q ≤ 60 by omega)
    rw [← h2]; exact_mod_cast this
  show IntKind.i64.wrap ((BitVec.ofInt 64 n &&& BitVec.ofInt 64 p).toNat : Nat) = n % 2 ^ q
  rw [key, e, IntKind.wrap_i64]
  omega

theorem u64_remu (v : Int) (m : Nat) (h0 : 0 < m) : ∃ p : Nat, (IntKind.u64.wrap v).tmod m = p ∧ p < m := by
  have h0' : IntKind.u64.wrap v = v % 18446744073709551616 := by rw [IntKind.wrap_u64]
  have h2 : 0 ≤ v % 18446744073709551616 := by omega
  have h3 : 0 ≤ v % 18446744073709551616 % (m : Int) := Int.emod_nonneg _ (by omega)
  have h4 : v % 18446744073709551616 % (m : Int) < m := Int.emod_lt_of_pos _ (by omega)
  refine ⟨((v % 18446744073709551616) % m).toNat, ?_, by omega⟩
  rw [h0', Int.tmod_eq_emod_of_nonneg h2]
  omega
theorem num_32 (v : Int) : ∃ n : Int, wrap64 (wrap32 (IntKind.u64.wrap v % 4294967296)) = n ∧ isNum n = true := ⟨_, rfl, num_yes.2 (by unfold wrap64 wrap32; omega)⟩
theorem i64_m15 (n : Int) : bits .and .i64 n 15 = n % 16 := i64_andq n 15 4 (by decide) (by decide)
theorem i64_m1023 (n : Int) : bits .and .i64 n 1023 = n % 1024 := i64_andq n 1023 10 (by decide) (by decide)
theorem i64_m4095 (n : Int) : bits .and .i64 n 4095 = n % 4096 := i64_andq n 4095 12 (by decide) (by decide)
theorem i64_m31 (n : Int) : bits .and .i64 n 31 = n % 32 := i64_andq n 31 5 (by decide) (by decide)
theorem i64_m3 (n : Int) : bits .and .i64 n 3 = n % 4 := i64_andq n 3 2 (by decide) (by decide)
end Go.Proofs.YtpfgklkdldkajaaDoor
