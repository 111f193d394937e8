/- For every two ints: of their wraps the quotient times the divisor and what is left is the number; what is left is smaller and on the number's side. No condition. -/
import Derived.Test.YtjjnccllamgbaaaPWrapPartsx2
namespace Go.Proofs.Ytjjnccllamgbaaa.Pure
open Go.RowKit Go.Proofs.Ytjjnccllamgbaaa.PWrapParts Go.Proofs.YtjjnccllamgbaaaW.PrintWords Go.Proofs.YtjjnccllamgbaaaW.PrintLast

def IsNum (x : Int) : Prop := -2147483648 ≤ x ∧ x ≤ 2147483647
instance (x : Int) : Decidable (IsNum x) := inferInstanceAs (Decidable (_ ∧ _))

theorem w3264 (x : Int) : wrap64 (wrap32 x) = wrap32 x := by unfold wrap64 wrap32; omega
theorem w32_num (x : Int) : IsNum (wrap32 x) := by unfold IsNum wrap32; omega
theorem w32_id {x : Int} (h : IsNum x) : wrap32 x = x := by unfold IsNum at h; unfold wrap32; omega
theorem w64_id {x : Int} (h1 : -9223372036854775808 ≤ x) (h2 : x ≤ 9223372036854775807) : wrap64 x = x := by unfold wrap64; omega

theorem wrapf (x : Int) : wrap_Wrap.f x = some (wrap32 x) := by unfold wrap_Wrap.f; rw [w3264]

theorem is_yes {x : Int} (h : IsNum x) : wrap_Is.f x = some true := by
  unfold wrap_Is.f; rw [w3264, w32_id h]; simp
theorem is_no {x : Int} (h : ¬ IsNum x) : wrap_Is.f x = some false := by
  unfold wrap_Is.f; rw [w3264]; congr 1; rw [beq_eq_false_iff_ne]
  intro e; exact h (e ▸ w32_num x)

/-- What 'wrap.Do' answers for numbers. -/
theorem do_form {op a b : Int} (h : op < 3 ∨ op > 9 ∨ ¬ IsNum a ∨ ¬ IsNum b) (k : Nat) : wrap_Do.f (k + 2) op a b = some (0, false, 100) := by
  unfold wrap_Do.f
  by_cases h1 : op < 3
  · rw [if_pos h1]; simp [wrap_Do.j0]
  rw [if_neg h1]
  by_cases h2 : op > 9
  · rw [if_pos h2]; simp [wrap_Do.j0]
  rw [if_neg h2]
  by_cases ha : IsNum a
  · rw [is_yes ha]
    have hb : ¬ IsNum b := by
      rcases h with h | h | h | h
      · exact absurd h h1
      · exact absurd h h2
      · exact absurd ha h
      · exact h
    rw [is_no hb]; simp [wrap_Do.j0]
  · rw [is_no ha]; simp [wrap_Do.j0]

theorem mul_bound {a b : Int} (ha : IsNum a) (hb : IsNum b) : -4611686018427387904 ≤ a * b ∧ a * b ≤ 4611686018427387904 := by
  unfold IsNum at *
  have h1 : (a * b).natAbs ≤ 2147483648 * 2147483648 := by
    rw [Int.natAbs_mul]; exact Nat.mul_le_mul (by omega) (by omega)
  omega

theorem tdiv_bound {a b : Int} (ha : IsNum a) : -2147483648 ≤ Int.tdiv a b ∧ Int.tdiv a b ≤ 2147483648 := by
  unfold IsNum at *
  have h1 : (Int.tdiv a b).natAbs ≤ 2147483648 := by
    rw [Int.natAbs_tdiv]; exact Nat.le_trans (Nat.div_le_self _ _) (by omega)
  omega

theorem do_head {op a b : Int} (h1 : 3 ≤ op) (h2 : op ≤ 9) (ha : IsNum a) (hb : IsNum b) (k : Nat) : wrap_Do.f k op a b = wrap_Do.j0 k op a b false := by
  unfold wrap_Do.f
  rw [if_neg (by omega), if_neg (by omega), is_yes ha, is_yes hb]; simp

theorem do_add {a b : Int} (ha : IsNum a) (hb : IsNum b) (k : Nat) : wrap_Do.f (k + 2) 3 a b = some (wrap32 (a + b), false, 0) := by
  rw [do_head (by decide) (by decide) ha hb]; simp only [wrap_Do.j0]; unfold IsNum at ha hb
  rw [w64_id (x := a + b) (by omega) (by omega)]; simp [wrapf]
theorem do_sub {a b : Int} (ha : IsNum a) (hb : IsNum b) (k : Nat) : wrap_Do.f (k + 2) 4 a b = some (wrap32 (a - b), false, 0) := by
  rw [do_head (by decide) (by decide) ha hb]; simp only [wrap_Do.j0]; unfold IsNum at ha hb
  rw [w64_id (x := -b) (by omega) (by omega), w64_id (x := a + -b) (by omega) (by omega), wrapf]; simp [Int.sub_eq_add_neg]
theorem do_mul {a b : Int} (ha : IsNum a) (hb : IsNum b) (k : Nat) : wrap_Do.f (k + 2) 5 a b = some (wrap32 (a * b), false, 0) := by
  have hm := mul_bound ha hb
  rw [do_head (by decide) (by decide) ha hb]; simp only [wrap_Do.j0]
  rw [w64_id (x := a * b) (by omega) (by omega)]; simp [wrapf]
theorem do_div0 {a : Int} (ha : IsNum a) (k : Nat) : wrap_Do.f (k + 2) 6 a 0 = some (0, true, 0) := by
  rw [do_head (by decide) (by decide) ha (by unfold IsNum; omega)]; simp [wrap_Do.j0, wrap_Do.j1]
theorem do_rem0 {a : Int} (ha : IsNum a) (k : Nat) : wrap_Do.f (k + 2) 7 a 0 = some (0, true, 0) := by
  rw [do_head (by decide) (by decide) ha (by unfold IsNum; omega)]; simp [wrap_Do.j0, wrap_Do.j1]
theorem do_div {a b : Int} (ha : IsNum a) (hb : IsNum b) (h0 : b ≠ 0) (k : Nat) : wrap_Do.f (k + 2) 6 a b = some (wrap32 (Int.tdiv a b), false, 0) := by
  have hm := tdiv_bound (b := b) ha
  rw [do_head (by decide) (by decide) ha hb]; simp [wrap_Do.j0, wrap_Do.j1, h0]
  rw [w64_id (x := Int.tdiv a b) (by omega) (by omega), wrapf]; simp
theorem do_rem {a b : Int} (ha : IsNum a) (hb : IsNum b) (h0 : b ≠ 0) (k : Nat) : wrap_Do.f (k + 2) 7 a b = some (wrap32 (Int.tmod a b), false, 0) := by
  rw [do_head (by decide) (by decide) ha hb]; simp [wrap_Do.j0, wrap_Do.j1, h0]
  rw [wrapf]; simp
theorem do_eq {a b : Int} (ha : IsNum a) (hb : IsNum b) (k : Nat) : wrap_Do.f (k + 2) 8 a b = some (if a = b then 1 else 0, false, 0) := by
  rw [do_head (by decide) (by decide) ha hb]; simp [wrap_Do.j0, wrap_Do.j1, wrap_told.f]
  by_cases e : a = b
  · simp [e, wrapf, wrap32]
  · simp [e, wrapf, wrap32]
theorem do_lt {a b : Int} (ha : IsNum a) (hb : IsNum b) (k : Nat) : wrap_Do.f (k + 2) 9 a b = some (if a < b then 1 else 0, false, 0) := by
  rw [do_head (by decide) (by decide) ha hb]; simp [wrap_Do.j0, wrap_Do.j1, wrap_told.f]
  by_cases e : a < b
  · simp [e, wrapf, wrap32]
  · simp [e, wrapf, wrap32]

theorem numf (x : Int) : swagelaw0_Num.f x = some x := rfl
theorem awake (k : Nat) : swagelaw1_awake.f (k + 2) = some true := by
  unfold swagelaw1_awake.f
  rw [do_add (by unfold IsNum; omega) (by unfold IsNum; omega), do_div (by unfold IsNum; omega) (by unfold IsNum; omega) (by decide),
    do_rem0 (by unfold IsNum; omega), do_form (Or.inr (Or.inl (by decide))), do_rem (by unfold IsNum; omega) (by unfold IsNum; omega) (by decide)]
  simp only [Option.bind_some, wrapf, numf]
  decide +kernel
theorem WrapParts : swagelaw1_WrapParts.Pure := by
  intro a b _ _
  refine ⟨2, ?_⟩
  unfold swagelaw1_WrapParts.f
  have hx := w32_num a
  have hy := w32_num b
  rw [awake 0]
  simp only [Option.bind_some, if_true, wrapf]
  generalize wrap32 a = x at *
  generalize wrap32 b = y at *
  by_cases h0 : y = 0
  · subst h0
    simp [do_div0 hx, do_rem0 hx, numf]
  have hq := w32_num (Int.tdiv x y)
  have hr := w32_num (Int.tmod x y)
  have hp := w32_num (wrap32 (Int.tdiv x y) * y)
  simp only [do_div hx hy h0, do_rem hx hy h0, Option.bind_some, if_neg h0, do_mul hq hy, do_add hp hr, numf]
  have hmod : IsNum (Int.tmod x y) := by
    unfold IsNum at *
    have h1 : (Int.tmod x y).natAbs ≤ x.natAbs := by rw [Int.natAbs_tmod]; exact Nat.mod_le _ _
    by_cases hs : 0 ≤ x
    · have := Int.tmod_nonneg y hs; omega
    · have h3 : Int.tmod x y = -(Int.tmod (-x) y) := by rw [Int.neg_tmod]; omega
      have := Int.tmod_nonneg y (a := -x) (by omega); omega
  have hid := w32_id hmod
  have hsum : wrap32 (wrap32 (wrap32 (Int.tdiv x y) * y) + wrap32 (Int.tmod x y)) = x := by
    have e := Int.mul_tdiv_add_tmod x y
    have h1 : wrap32 (wrap32 (Int.tdiv x y) * y) % 4294967296 = (y * Int.tdiv x y) % 4294967296 := by
      have : wrap32 (wrap32 (Int.tdiv x y) * y) % 4294967296 = (wrap32 (Int.tdiv x y) * y) % 4294967296 := by unfold wrap32; omega
      rw [this, Int.mul_emod, show wrap32 (Int.tdiv x y) % 4294967296 = Int.tdiv x y % 4294967296 from by unfold wrap32; omega, ← Int.mul_emod, Int.mul_comm]
    rw [hid]
    unfold IsNum at hx
    generalize wrap32 (wrap32 (Int.tdiv x y) * y) = u at *
    generalize y * Int.tdiv x y = v at *
    unfold wrap32; omega
  rw [hsum, hid]
  have hlt : (Int.tmod x y).natAbs < y.natAbs := by
    rw [Int.natAbs_tmod]; exact Nat.mod_lt _ (by omega)
  have hmax : mx (Int.tmod x y) (wrap64 (-(Int.tmod x y))) < mx y (wrap64 (-y)) := by
    unfold IsNum at hmod hy
    rw [w64_id (by omega) (by omega), w64_id (by omega) (by omega)]
    unfold mx; omega
  by_cases hz : Int.tmod x y = 0
  · rw [hz] at hmax ⊢
    simp only [if_true, Bool.false_eq_true, if_false]; rw [decide_eq_true hmax]
  · have hsg : (decide (Int.tmod x y < 0) == decide (x < 0)) = true := by
      by_cases hs : 0 ≤ x
      · have := Int.tmod_nonneg y hs
        rw [decide_eq_false (by omega), decide_eq_false (by omega)]; rfl
      · have h3 : Int.tmod x y = -(Int.tmod (-x) y) := by rw [Int.neg_tmod]; omega
        have := Int.tmod_nonneg y (a := -x) (by omega)
        rw [decide_eq_true (by omega), decide_eq_true (by omega)]; rfl
    simp only [if_true, Bool.false_eq_true, if_false, if_neg hz, hsg]; rw [decide_eq_true hmax]

end Go.Proofs.Ytjjnccllamgbaaa.Pure
