/- Instructions: which may be, what they take off the stack and put there; the program's functions and the document's answer so. Plain definitions, contracts. No condition. -/
import Derived.Test.YtpfgklkdldkajaaDoorMem
namespace Go.Proofs.YtpfgklkdldkajaaDoor
open Go.RowKit

structure Ins where
  kind : Int
  a : Int
def Ins.v (x : Ins) : Value := .agg #[.int .i64 x.kind, .int .i64 x.a]
def isNum (x : Int) : Bool := decide (-2147483648 ≤ x) && decide (x ≤ 2147483647)
def belowOf (k : Int) : Int := if k = 1 ∨ k = 2 then 8 else if k = 12 ∨ k = 13 then 64 else if k = 14 then 8 else 1
def insMay (x : Ins) : Bool := if x.kind < 0 ∨ 16 < x.kind then false else if x.kind = 0 then isNum x.a else decide (0 ≤ x.a) && decide (x.a < belowOf x.kind)
def takesOf (k args : Int) : Int := if k = 0 ∨ k = 1 ∨ k = 12 then 0 else if k = 2 ∨ k = 11 ∨ k = 13 ∨ k = 15 ∨ k = 16 ∨ k = 10 then 1 else if k = 14 then args else 2
def putsOf (k : Int) : Int := if k = 2 ∨ k = 11 ∨ k = 13 ∨ k = 15 ∨ k = 16 ∨ k = 12 then 0 else if k = 10 then 2 else 1

/-- A call that only reads: its answer; nothing old turns. -/
def Ret (v : Value) (w : World) (e : Ending) (w' : World) : Prop := e = .returned v ∧ Below w.heap.size w w'
theorem Ret.same (v : Value) (w : World) : Ret v w (.returned v) w := ⟨rfl, Below.refl _ _⟩

theorem below_drew {w w1 : World} (h : Below w.heap.size w w1) (n : Nat) : Below w.heap.size w (w1.drewN n) := ⟨h.os, h.tape, h.output, h.size, h.block⟩
theorem ret_int {x y : Int} (h : x = y) : Ending.returned (.int .i64 x) = .returned (.int .i64 y) := by rw [h]
theorem ret_bool {x y : Bool} (h : x = y) : Ending.returned (.bool x) = .returned (.bool y) := by rw [h]
theorem wrap_num (n : Int) : (wrap64 (wrap32 n) == n) = isNum n := by
  unfold isNum
  rw [Bool.eq_iff_iff]
  simp only [beq_iff_eq, Bool.and_eq_true, decide_eq_true_eq]
  unfold wrap64 wrap32
  omega
theorem num_yes {n : Int} : isNum n = true ↔ -2147483648 ≤ n ∧ n ≤ 2147483647 := by unfold isNum; simp

theorem is_any (n : Int) (w : World) : Calls Tryd.prog 75 #[.int .i64 n] w fun e w' => e = .returned (.bool (isNum n)) ∧ w' = w := by
  go_enter Tryd.func75, Tryd.ntmps75
  go_wp2
  go_ret
  exact ⟨ret_bool (wrap_num n), rfl⟩
theorem number_any (n : Int) (w : World) : Calls Tryd.prog 57 #[.int .i64 n] w fun e w' => e = .returned (.bool (isNum n)) ∧ w' = w := by
  go_enter Tryd.func57, Tryd.ntmps57
  go_wp2
  all_goals go_ret
  all_goals exact ⟨ret_bool (by unfold isNum; first | (simp_all; done) | (simp_all; omega)), rfl⟩
theorem below_any (k : Int) (w : World) : Calls Tryd.prog 115 #[.int .i64 k] w fun e w' => e = .returned (.int .i64 (belowOf k)) ∧ w' = w := by
  go_enter Tryd.func115, Tryd.ntmps115
  go_wp2
  all_goals go_ret
  all_goals exact ⟨ret_int (by unfold belowOf; simp_all), rfl⟩

set_option maxRecDepth 100000 in
set_option maxHeartbeats 1000000 in
theorem may_any (x : Ins) (w : World) : Calls Tryd.prog 94 #[x.v] w (Ret (.bool (insMay x)) w) := by
  unfold Ins.v
  by_cases h0 : x.kind < 0 ∨ 16 < x.kind
  · have he : insMay x = false := by unfold insMay; rw [if_pos h0]
    rw [he]
    by_cases h1 : x.kind < 0
    · have d1 : decide (x.kind < 0) = true := by simpa using h1
      go_enter Tryd.func94, Tryd.ntmps94
      go_wp2
      go_ret
      exact ⟨rfl, below_alloc (Below.refl _ _) _⟩
    · have d1 : decide (x.kind < 0) = false := by simpa using h1
      have d2 : decide (16 < x.kind) = true := by simp; omega
      go_enter Tryd.func94, Tryd.ntmps94
      go_wp2
      go_ret
      exact ⟨rfl, below_alloc (Below.refl _ _) _⟩
  · have d1 : decide (x.kind < 0) = false := by simp; omega
    have d2 : decide (16 < x.kind) = false := by simp; omega
    by_cases hk : x.kind = 0
    · have he : insMay x = isNum x.a := by unfold insMay; rw [if_neg h0, if_pos hk]
      rw [he]
      have d3 : (x.kind == 0) = true := by simpa using hk
      go_enter Tryd.func94, Tryd.ntmps94
      go_wp2_with (go_at_call 75; refine (is_any _ _).mono ?_; rintro e w' ⟨rfl, rfl⟩)
      go_ret
      exact ⟨rfl, below_alloc (Below.refl _ _) _⟩
    · have he : insMay x = (decide (0 ≤ x.a) && decide (x.a < belowOf x.kind)) := by unfold insMay; rw [if_neg h0, if_neg hk]
      rw [he]
      have d3 : (x.kind == 0) = false := by simpa using hk
      go_enter Tryd.func94, Tryd.ntmps94
      by_cases ha : 0 ≤ x.a
      · have d4 : decide (0 ≤ x.a) = true := by simpa using ha
        go_wp2
        go_quiet (first | (go_at_call 115; refine Calls.quiet_of_same (below_any _ _)))
        go_wp2
        go_ret
        exact ⟨ret_bool (by simp [ha]), below_drew (below_alloc (Below.refl _ _) _) _⟩
      · have d4 : decide (0 ≤ x.a) = false := by simpa using ha
        go_wp2
        go_quiet (first | (go_at_call 115; refine Calls.quiet_of_same (below_any _ _)))
        go_wp2
        go_ret
        exact ⟨ret_bool (by rw [d4]; rfl), below_drew (below_alloc (Below.refl _ _) _) _⟩

theorem may_of {x : Ins} (h : insMay x = true) : 0 ≤ x.kind ∧ x.kind ≤ 16 ∧ (x.kind ≠ 0 → 0 ≤ x.a ∧ x.a < belowOf x.kind) := by
  unfold insMay at h
  by_cases h0 : x.kind < 0 ∨ 16 < x.kind
  · rw [if_pos h0] at h; cases h
  · rw [if_neg h0] at h
    refine ⟨by omega, by omega, fun hk => ?_⟩
    rw [if_neg hk] at h
    simpa using h
theorem may_eq {x : Ins} (k : Int) (h : x.kind = k) (h0 : 0 ≤ k) (h16 : k ≤ 16) (hk : k ≠ 0) : insMay x = (decide (0 ≤ x.a) && decide (x.a < belowOf k)) := by
  unfold insMay; rw [if_neg (by omega), if_neg (by omega), h]
set_option maxRecDepth 100000 in
set_option maxHeartbeats 1000000 in
theorem rmay_any (x : Ins) (w : World) : Calls Tryd.prog 105 #[x.v] w (Ret (.bool (insMay x)) w) := by
  have B : Below w.heap.size w (w.alloc (.cells #[.int .i64 x.kind, .int .i64 x.a] 28)) := below_alloc (Below.refl _ _) _
  obtain ⟨k, a⟩ := x
  have HB := Lib.hid B
  clear B
  unfold Ins.v
  go_enter Tryd.func105, Tryd.ntmps105
  go_wp2_with (go_at_call 57; refine (number_any _ _).mono ?_; rintro e w' ⟨rfl, rfl⟩)
  all_goals go_ret
  all_goals refine ⟨ret_bool ?_, HB.out⟩
  all_goals unfold insMay belowOf
  all_goals first | (simp_all; done) | (simp_all; omega) | (rw [Bool.eq_iff_iff]; simp_all; done) | (rw [Bool.eq_iff_iff]; simp_all; omega)

/-- What 'Effect' answers. -/
def effOf (x : Ins) (n : Int) : Int × Int × Int := if insMay x = true ∧ 0 ≤ n ∧ n ≤ 4 then (takesOf x.kind n, putsOf x.kind, 0) else (0, 0, 200)
def Trip (p : Int × Int × Int) : Value := .tuple #[.int .i64 p.1, .int .i64 p.2.1, .int .i64 p.2.2]
theorem ret_trip {a b c : Int} {p : Int × Int × Int} (h : p = (a, b, c)) : Ending.returned (.tuple #[.int .i64 a, .int .i64 b, .int .i64 c]) = .returned (Trip p) := by rw [h]; rfl
set_option maxRecDepth 100000 in
set_option maxHeartbeats 2000000 in
theorem effect_any (x : Ins) (n : Int) (w : World) : Calls Tryd.prog 68 #[x.v, .int .i64 n] w (Ret (Trip (effOf x n)) w) := by
  have B : Below w.heap.size w (w.alloc (.cells #[.int .i64 x.kind, .int .i64 x.a] 28)) := below_alloc (Below.refl _ _) _
  have HM := Lib.hid (may_any x (w.alloc (.cells #[.int .i64 x.kind, .int .i64 x.a] 28)))
  obtain ⟨k, a⟩ := x
  unfold Ins.v at HM ⊢
  cases hm : insMay ⟨k, a⟩ with
  | false =>
    rw [hm] at HM
    go_enter Tryd.func68, Tryd.ntmps68
    go_wp2_with (go_at_call 94; refine HM.out.mono ?_; rintro e w1 ⟨rfl, hB⟩)
    go_ret3
    exact ⟨ret_trip (by unfold effOf; rw [if_neg (by simp [hm])]), below_trans B hB⟩
  | true =>
    obtain ⟨k0, k16, _⟩ := may_of hm
    rw [hm] at HM
    by_cases hn : 0 ≤ n ∧ n ≤ 4
    · have d1 : decide (n < 0) = false := by simp; omega
      have d2 : decide (4 < n) = false := by simp; omega
      have he : effOf ⟨k, a⟩ n = (takesOf k n, putsOf k, 0) := by unfold effOf; rw [if_pos ⟨hm, hn.1, hn.2⟩]
      rw [he]
      go_enter Tryd.func68, Tryd.ntmps68
      go_wp2_with fail
      refine HM.out.mono ?_
      rintro e w1 ⟨rfl, hB⟩
      have c0 : w1.cell? ⟨w.heap.size, 0, none⟩ = some (.int .i64 k) := by rw [hB.cell (by simp)]; simp
      have B1 := Lib.hid (below_trans B hB)
      clear hB B hm he
      go_wp2
      all_goals go_ret3
      all_goals exact ⟨ret_trip (by unfold takesOf putsOf; first | (simp_all; done) | (simp_all; omega)), B1.out⟩
    · have he : effOf ⟨k, a⟩ n = (0, 0, 200) := by unfold effOf; rw [if_neg (fun h => hn ⟨h.2.1, h.2.2⟩)]
      rw [he]
      go_enter Tryd.func68, Tryd.ntmps68
      go_wp2_with (go_at_call 94; refine HM.out.mono ?_; rintro e w1 ⟨rfl, hB⟩)
      all_goals go_ret3
      all_goals first | exact ⟨rfl, below_trans B hB⟩ | (exfalso; omega)
set_option maxRecDepth 100000 in
set_option maxHeartbeats 2000000 in
theorem reffect_any (x : Ins) (n : Int) (w : World) : Calls Tryd.prog 74 #[x.v, .int .i64 n] w (Ret (Trip (effOf x n)) w) := by
  have B : Below w.heap.size w (w.alloc (.cells #[.int .i64 x.kind, .int .i64 x.a] 28)) := below_alloc (Below.refl _ _) _
  have HM := Lib.hid (rmay_any x (w.alloc (.cells #[.int .i64 x.kind, .int .i64 x.a] 28)))
  obtain ⟨k, a⟩ := x
  unfold Ins.v at HM ⊢
  cases hm : insMay ⟨k, a⟩ with
  | false =>
    rw [hm] at HM
    go_enter Tryd.func74, Tryd.ntmps74
    go_wp2_with (go_at_call 105; refine HM.out.mono ?_; rintro e w1 ⟨rfl, hB⟩)
    go_ret3
    exact ⟨ret_trip (by unfold effOf; rw [if_neg (by simp [hm])]), below_trans B hB⟩
  | true =>
    obtain ⟨k0, k16, _⟩ := may_of hm
    rw [hm] at HM
    by_cases hn : 0 ≤ n ∧ n ≤ 4
    · have d1 : decide (n < 0) = false := by simp; omega
      have d2 : decide (4 < n) = false := by simp; omega
      have he : effOf ⟨k, a⟩ n = (takesOf k n, putsOf k, 0) := by unfold effOf; rw [if_pos ⟨hm, hn.1, hn.2⟩]
      rw [he]
      go_enter Tryd.func74, Tryd.ntmps74
      go_wp2_with fail
      refine HM.out.mono ?_
      rintro e w1 ⟨rfl, hB⟩
      have c0 : w1.cell? ⟨w.heap.size, 0, none⟩ = some (.int .i64 k) := by rw [hB.cell (by simp)]; simp
      have B1 := Lib.hid (below_trans B hB)
      clear hB B hm he
      go_wp2
      all_goals go_ret3
      all_goals exact ⟨ret_trip (by unfold takesOf putsOf; first | (simp_all; done) | (simp_all; omega)), B1.out⟩
    · have he : effOf ⟨k, a⟩ n = (0, 0, 200) := by unfold effOf; rw [if_neg (fun h => hn ⟨h.2.1, h.2.2⟩)]
      rw [he]
      go_enter Tryd.func74, Tryd.ntmps74
      go_wp2_with (go_at_call 105; refine HM.out.mono ?_; rintro e w1 ⟨rfl, hB⟩)
      all_goals go_ret3
      all_goals first | exact ⟨rfl, below_trans B hB⟩ | (exfalso; omega)
end Go.Proofs.YtpfgklkdldkajaaDoor
