/- For every two ints: their wraps are numbers of 32 bits; sums, differences and products of these go round as those of 32 bits. No condition. -/
import Derived.Test.YtjjnccllamgbaaaPWrapRoundsx1
namespace Go.Proofs.Ytjjnccllamgbaaa.Pure
open Go.RowKit Go.Proofs.Ytjjnccllamgbaaa.PWrapRounds Go.Proofs.YtjjnccllamgbaaaW.PrintWords Go.Proofs.YtjjnccllamgbaaaW.PrintLast

def IsNum (x : Int) : Prop := -2147483648 ≤ x ∧ x ≤ 2147483647
instance (x : Int) : Decidable (IsNum x) := inferInstanceAs (Decidable (_ ∧ _))

theorem w3264 (x : Int) : wrap64 (wrap32 x) = wrap32 x := by unfold wrap64 wrap32; omega
theorem w32_num (x : Int) : IsNum (wrap32 x) := by unfold IsNum wrap32; omega
theorem w32_id {x : Int} (h : IsNum x) : wrap32 x = x := by unfold IsNum at h; unfold wrap32; omega
theorem w64_id {x : Int} (h1 : -9223372036854775808 ≤ x) (h2 : x ≤ 9223372036854775807) : wrap64 x = x := by unfold wrap64; omega

theorem wrapf (x : Int) : wrap_Wrap.f x = some (wrap32 x) := by unfold wrap_Wrap.f; rw [w3264]

theorem is_yes {x : Int} (h : IsNum x) : wrap_Is.f x = some true := by
  unfold wrap_Is.f; rw [w3264, w32_id h]; simp
theorem is_no {x : Int} (h : ¬ IsNum x) : wrap_Is.f x = some false := by
  unfold wrap_Is.f; rw [w3264]; congr 1; rw [beq_eq_false_iff_ne]
  intro e; exact h (e ▸ w32_num x)

/-- What 'wrap.Do' answers for numbers. -/
theorem do_form {op a b : Int} (h : op < 3 ∨ op > 9 ∨ ¬ IsNum a ∨ ¬ IsNum b) (k : Nat) : wrap_Do.f (k + 2) op a b = some (0, false, 100) := by
  unfold wrap_Do.f
  by_cases h1 : op < 3
  · rw [if_pos h1]; simp [wrap_Do.j0]
  rw [if_neg h1]
  by_cases h2 : op > 9
  · rw [if_pos h2]; simp [wrap_Do.j0]
  rw [if_neg h2]
  by_cases ha : IsNum a
  · rw [is_yes ha]
    have hb : ¬ IsNum b := by
      rcases h with h | h | h | h
      · exact absurd h h1
      · exact absurd h h2
      · exact absurd ha h
      · exact h
    rw [is_no hb]; simp [wrap_Do.j0]
  · rw [is_no ha]; simp [wrap_Do.j0]

theorem mul_bound {a b : Int} (ha : IsNum a) (hb : IsNum b) : -4611686018427387904 ≤ a * b ∧ a * b ≤ 4611686018427387904 := by
  unfold IsNum at *
  have h1 : (a * b).natAbs ≤ 2147483648 * 2147483648 := by
    rw [Int.natAbs_mul]; exact Nat.mul_le_mul (by omega) (by omega)
  omega

theorem tdiv_bound {a b : Int} (ha : IsNum a) : -2147483648 ≤ Int.tdiv a b ∧ Int.tdiv a b ≤ 2147483648 := by
  unfold IsNum at *
  have h1 : (Int.tdiv a b).natAbs ≤ 2147483648 := by
    rw [Int.natAbs_tdiv]; exact Nat.le_trans (Nat.div_le_self _ _) (by omega)
  omega

theorem do_head {op a b : Int} (h1 : 3 ≤ op) (h2 : op ≤ 9) (ha : IsNum a) (hb : IsNum b) (k : Nat) : wrap_Do.f k op a b = wrap_Do.j0 k op a b false := by
  unfold wrap_Do.f
  rw [if_neg (by omega), if_neg (by omega), is_yes ha, is_yes hb]; simp

theorem do_add {a b : Int} (ha : IsNum a) (hb : IsNum b) (k : Nat) : wrap_Do.f (k + 2) 3 a b = some (wrap32 (a + b), false, 0) := by
  rw [do_head (by decide) (by decide) ha hb]; simp only [wrap_Do.j0]; unfold IsNum at ha hb
  rw [w64_id (x := a + b) (by omega) (by omega)]; simp [wrapf]
theorem do_sub {a b : Int} (ha : IsNum a) (hb : IsNum b) (k : Nat) : wrap_Do.f (k + 2) 4 a b = some (wrap32 (a - b), false, 0) := by
  rw [do_head (by decide) (by decide) ha hb]; simp only [wrap_Do.j0]; unfold IsNum at ha hb
  rw [w64_id (x := -b) (by omega) (by omega), w64_id (x := a + -b) (by omega) (by omega), wrapf]; simp [Int.sub_eq_add_neg]
theorem do_mul {a b : Int} (ha : IsNum a) (hb : IsNum b) (k : Nat) : wrap_Do.f (k + 2) 5 a b = some (wrap32 (a * b), false, 0) := by
  have hm := mul_bound ha hb
  rw [do_head (by decide) (by decide) ha hb]; simp only [wrap_Do.j0]
  rw [w64_id (x := a * b) (by omega) (by omega)]; simp [wrapf]
theorem do_div0 {a : Int} (ha : IsNum a) (k : Nat) : wrap_Do.f (k + 2) 6 a 0 = some (0, true, 0) := by
  rw [do_head (by decide) (by decide) ha (by unfold IsNum; omega)]; simp [wrap_Do.j0, wrap_Do.j1]
theorem do_rem0 {a : Int} (ha : IsNum a) (k : Nat) : wrap_Do.f (k + 2) 7 a 0 = some (0, true, 0) := by
  rw [do_head (by decide) (by decide) ha (by unfold IsNum; omega)]; simp [wrap_Do.j0, wrap_Do.j1]
theorem do_div {a b : Int} (ha : IsNum a) (hb : IsNum b) (h0 : b ≠ 0) (k : Nat) : wrap_Do.f (k + 2) 6 a b = some (wrap32 (Int.tdiv a b), false, 0) := by
  have hm := tdiv_bound (b := b) ha
  rw [do_head (by decide) (by decide) ha hb]; simp [wrap_Do.j0, wrap_Do.j1, h0]
  rw [w64_id (x := Int.tdiv a b) (by omega) (by omega), wrapf]; simp
theorem do_rem {a b : Int} (ha : IsNum a) (hb : IsNum b) (h0 : b ≠ 0) (k : Nat) : wrap_Do.f (k + 2) 7 a b = some (wrap32 (Int.tmod a b), false, 0) := by
  rw [do_head (by decide) (by decide) ha hb]; simp [wrap_Do.j0, wrap_Do.j1, h0]
  rw [wrapf]; simp
theorem do_eq {a b : Int} (ha : IsNum a) (hb : IsNum b) (k : Nat) : wrap_Do.f (k + 2) 8 a b = some (if a = b then 1 else 0, false, 0) := by
  rw [do_head (by decide) (by decide) ha hb]; simp [wrap_Do.j0, wrap_Do.j1, wrap_told.f]
  by_cases e : a = b
  · simp [e, wrapf, wrap32]
  · simp [e, wrapf, wrap32]
theorem do_lt {a b : Int} (ha : IsNum a) (hb : IsNum b) (k : Nat) : wrap_Do.f (k + 2) 9 a b = some (if a < b then 1 else 0, false, 0) := by
  rw [do_head (by decide) (by decide) ha hb]; simp [wrap_Do.j0, wrap_Do.j1, wrap_told.f]
  by_cases e : a < b
  · simp [e, wrapf, wrap32]
  · simp [e, wrapf, wrap32]

theorem numf (x : Int) : swagelaw0_Num.f x = some x := rfl
theorem awake (k : Nat) : swagelaw1_awake.f (k + 2) = some true := by
  unfold swagelaw1_awake.f
  rw [do_add (by unfold IsNum; omega) (by unfold IsNum; omega), do_div (by unfold IsNum; omega) (by unfold IsNum; omega) (by decide),
    do_rem0 (by unfold IsNum; omega), do_form (Or.inr (Or.inl (by decide))), do_rem (by unfold IsNum; omega) (by unfold IsNum; omega) (by decide)]
  simp only [Option.bind_some, wrapf, numf]
  decide +kernel
theorem u32_of (x : Int) : IntKind.u64.wrap x % 4294967296 = x % 4294967296 := by rw [IntKind.wrap_u64]; omega
theorem w32_mod (x : Int) : wrap32 x % 4294967296 = x % 4294967296 := by unfold wrap32; omega
theorem w32_of_mod {x y : Int} (h : x % 4294967296 = y % 4294967296) : wrap32 x = wrap32 y := by unfold wrap32; omega

end Go.Proofs.Ytjjnccllamgbaaa.Pure
