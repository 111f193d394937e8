/- What the statements need of lists: are two the same, a copy, written over. Conditions: the lists lie in memory as they are said. -/
import Derived.Test.YtpfgklkdldkajaaDoorGen
import Derived.Test.YtpfgklkdldkajaaDoorRefCode
namespace Go.Proofs.YtpfgklkdldkajaaDoor
open Go.RowKit

instance : DecidableEq Ins := fun x y => if h : x.kind = y.kind ∧ x.a = y.a then isTrue (by cases x; cases y; obtain ⟨h1, h2⟩ := h; simp only at h1 h2; rw [h1, h2]) else isFalse (fun e => h (by rw [e]; exact ⟨rfl, rfl⟩))
instance : DecidableEq Fn := fun x y => if h : x.args = y.args ∧ x.locals = y.locals ∧ x.code = y.code then isTrue (by cases x; cases y; obtain ⟨h1, h2, h3⟩ := h; simp only at h1 h2 h3; rw [h1, h2, h3]) else isFalse (fun e => h (by rw [e]; exact ⟨rfl, rfl, rfl⟩))
/-- A call that only reads: its answer; the draws alone have moved on. -/
def RetD (v : Value) (w : World) (e : Ending) (w' : World) : Prop := e = .returned v ∧ ∃ n, w' = w.drewN n
theorem RetD.ret {v : Value} {w w' : World} {e : Ending} (h : RetD v w e w') : Ret v w e w' := by
  obtain ⟨rfl, n, rfl⟩ := h
  exact ⟨rfl, below_drew (Below.refl _ _) _⟩
theorem ne_len {α : Type} [DecidableEq α] {xs ys : List α} (h : xs.length ≠ ys.length) : decide (xs = ys) = false := decide_eq_false (fun e => h (by rw [e]))
theorem ne_at {α : Type} [DecidableEq α] {xs ys : List α} {k : Nat} (hx : k < xs.length) (hy : k < ys.length) (h : xs[k] ≠ ys[k]) : decide (xs = ys) = false := decide_eq_false (fun e => h (by subst e; rfl))
theorem eq_all {α : Type} [DecidableEq α] {xs ys : List α} (hl : xs.length = ys.length) (h : ∀ j (hx : j < xs.length) (hy : j < ys.length), xs[j] = ys[j]) : decide (xs = ys) = true := decide_eq_true (List.ext_getElem hl h)
set_option maxHeartbeats 1000000 in
theorem sameInts_any (A B : Option Addr) (ca cb : Nat) (xs ys : List Int) (w : World) (hx : ReadsI w A xs) (hy : ReadsI w B ys) :
    Calls Tryd.prog 16 #[.slice A xs.length ca, .slice B ys.length cb] w (RetD (.bool (decide (xs = ys))) w) := by
  have HX := Lib.hid hx
  have HY := Lib.hid hy
  have n1 : xs.length ≤ 9223372036854775807 := hx.1
  have n2 : ys.length ≤ 9223372036854775807 := hy.1
  clear hx hy
  by_cases hl : xs.length = ys.length
  · have dl : (xs.length != ys.length) = false := by simpa using hl
    have dm : ((xs.length : Int) != ys.length) = false := by simp; omega
    have HL := Lib.hid hl
    clear hl
    go_enter Tryd.func16, Tryd.ntmps16
    go_wp2_with fail
    go_loopw [5] (fun i wr => ∃ k : Nat, k ≤ xs.length ∧ i = .int .i64 k ∧ (∀ j (hx : j < xs.length) (hy : j < ys.length), j < k → xs[j] = ys[j]) ∧ ∃ n, wr = w.drewN n) (fun i _ => xs.length - (intOf i).toNat)
    case atStart => exact ⟨0, Nat.zero_le _, rfl, fun _ _ _ h => absurd h (Nat.not_lt_zero _), 0, rfl⟩
    case round =>
      obtain ⟨k, hk, rfl, hv, n, rfl⟩ := hrel
      have HV := Lib.hid hv
      clear hv
      by_cases hlt : k < xs.length
      · have hly : k < ys.length := by have := HL.out; omega
        obtain ⟨a1, e1, c1⟩ := HX.out.at_ hlt
        obtain ⟨a2, e2, c2⟩ := HY.out.at_ hly
        subst e1 e2
        go_upto_region 6 with fail
        by_cases he : xs[k] = ys[k]
        · have de : (xs[k] != ys[k]) = false := by simpa using he
          have HE := Lib.hid he
          clear he
          go_quiet (fail)
          go_wp2_with fail
          go_roundw
          case rel => exact ⟨k + 1, by omega, by go_num, fun j hx hy h => by
            rcases Nat.lt_or_ge j k with h2 | h2
            · exact HV.out j hx hy h2
            · obtain rfl : j = k := by omega
              exact HE.out, by first | exact ⟨_, rfl⟩ | exact ⟨_, drewN_two _ _ _⟩⟩
          case measure => simp only [intOf]; omega
        · have de : (xs[k] != ys[k]) = true := by simpa using he
          have HE := Lib.hid he
          clear he
          go_quiet (fail)
          go_wp2_with fail
          go_ret
          exact ⟨ret_bool (ne_at hlt hly HE.out).symm, by first | exact ⟨_, rfl⟩ | exact ⟨_, drewN_two _ _ _⟩⟩
      · go_wp2_with fail
        go_ret
        exact ⟨ret_bool (eq_all HL.out fun j hx hy => HV.out j hx hy (by omega)).symm, _, rfl⟩
  · have dl : (xs.length != ys.length) = true := by simpa using hl
    have dm : ((xs.length : Int) != ys.length) = true := by simp; omega
    have HL := Lib.hid hl
    clear hl
    go_enter Tryd.func16, Tryd.ntmps16
    go_wp2_with fail
    go_ret
    exact ⟨ret_bool (ne_len HL.out).symm, 0, rfl⟩
def eqIns (x y : Ins) : Bool := x.kind == y.kind && (x.a == y.a)
theorem eqIns_iff (x y : Ins) : eqIns x y = true ↔ x = y := by
  unfold eqIns
  cases x; cases y
  simp
theorem eqrIns (d : Nat) (w : World) (x y : Ins) : (Op.equalIn (d + 2) 28 (.agg #[.int .i64 x.kind, .int .i64 x.a]) (.agg #[.int .i64 y.kind, .int .i64 y.a])).run Tryd.prog w = .ok (eqIns x y) w := by
  refine eq_struct Tryd.underlying28 (by kernel_rfl) ?_
  unfold eqIns
  rw [← Bool.and_true (x.a == y.a)]
  refine eq_next (by rfl) (by go_simp; rfl) (by go_simp; rfl) (by go_simp) ?_
  exact eq_next (by rfl) (by go_simp; rfl) (by go_simp; rfl) (by go_simp) eq_done
theorem fn_ext {x y : Fn} (h1 : x.args = y.args) (h2 : x.locals = y.locals) (h3 : x.code = y.code) : x = y := by cases x; cases y; simp only at h1 h2 h3; rw [h1, h2, h3]
end Go.Proofs.YtpfgklkdldkajaaDoor
