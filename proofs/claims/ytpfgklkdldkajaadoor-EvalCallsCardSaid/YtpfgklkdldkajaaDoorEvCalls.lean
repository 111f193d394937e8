/- EvalCalls: the walk. A function that calls itself comes to what it should, or to the end of its depth. Condition: errors.errorType is laid. -/
import Derived.Test.YtpfgklkdldkajaaDoorGE25
namespace Go.Proofs.YtpfgklkdldkajaaDoor
open Go.RowKit

def selfC : List Ins := [⟨1, 0⟩, ⟨13, 9⟩, ⟨1, 0⟩, ⟨1, 0⟩, ⟨0, 1⟩, ⟨4, 0⟩, ⟨14, 0⟩, ⟨5, 0⟩, ⟨16, 0⟩, ⟨0, 1⟩, ⟨16, 0⟩]
def selfP : List Fn := [⟨1, 1, selfC⟩]
/-- The product of what there is up to k. -/
def factN : Nat → Int
  | 0 => 1
  | k + 1 => factN k * ((k + 1 : Nat) : Int)
def selfR (k : Nat) : Rst := if 12 ≤ k then ⟨3, 0, [], 916⟩ else ⟨1, factN k, [], 1000 - 9 * k - 4⟩
theorem calls_all : ((List.range 16).all fun k => decide (evalR selfP [(k : Int)] 1000 = selfR k) && decide (evalC selfP [(k : Int)] 1000 = 0) && decide (0 ≤ factN k) && decide (factN k ≤ 1307674368000)) = true := by kernel_rfl
theorem calls_at {k : Nat} (h : k < 16) : evalR selfP [(k : Int)] 1000 = selfR k ∧ evalC selfP [(k : Int)] 1000 = 0 ∧ 0 ≤ factN k ∧ factN k ≤ 1307674368000 := by
  have := List.all_eq_true.1 calls_all k (List.mem_range.2 h)
  simp only [Bool.and_eq_true, decide_eq_true_eq] at this
  exact ⟨this.1.1.1, this.1.1.2, this.1.2, this.2⟩
theorem selfR_out (k : Nat) : (selfR k).out = [] := by unfold selfR; split <;> rfl
set_option maxRecDepth 100000 in
set_option maxHeartbeats 8000000 in
theorem evalCalls_yes (many : Int) (W : World) (hl : Laid W) : Calls Tryd.prog 9 #[.int .i64 many] W (Ret (.bool true) W) := by
  obtain ⟨K, hK, K15⟩ : ∃ K : Nat, bits .and .i64 many 15 = K ∧ K < 16 := ⟨(many % 16).toNat, by rw [i64_m15]; omega, by omega⟩
  obtain ⟨hR, hC, hf0, hf1⟩ := calls_at K15
  have HA := Lib.hid (awake8_any W hl)
  have HL := Lib.hid hl
  have HRR := Lib.hid (And.intro hR hC)
  have HK15 := Lib.hid K15
  clear hl hR hC hf0 hf1 K15
  go_enter Tryd.func9, Tryd.ntmps9
  go_wp2_with fail
  (with_reducible refine HA.out.mono ?_)
  rintro e w1 ⟨rfl, hB1⟩
  obtain ⟨w2, hw2⟩ : ∃ w2, w1.alloc (.cells (insV selfC).toArray 28) = w2 := ⟨_, rfl⟩
  have b2 : Below w1.heap.size w1 w2 := hw2 ▸ below_alloc (Below.refl _ _) _
  have rc : RowAt 28 w1.heap.size (insV selfC) w2 := hw2 ▸ RowAt.new _ _ w1
  have HS := Lib.hid (show Calls Tryd.prog 29 #[.int .i64 1, .int .i64 1, .slice (some ⟨w1.heap.size, 0, none⟩) 11 11] w2 (ProgL selfP 1 w2) from small_any 1 1 _ 11 selfC w2 (codeL rc (by simp [selfC])))
  have BB := Lib.hid (below_trans hB1 b2)
  have hw2' : w1.alloc (.cells #[.int .i64 1, .int .i64 0, .int .i64 13, .int .i64 9, .int .i64 1, .int .i64 0, .int .i64 1, .int .i64 0, .int .i64 0, .int .i64 1, .int .i64 4, .int .i64 0, .int .i64 14, .int .i64 0, .int .i64 5, .int .i64 0, .int .i64 16, .int .i64 0, .int .i64 0, .int .i64 1, .int .i64 16, .int .i64 0] 28) = w2 := hw2
  clear hw2 hB1 b2 rc HA
  go_wp2_with fail
  (with_reducible refine HS.out.mono ?_)
  rintro e w3 ⟨g, rfl, hr3, hB3⟩
  obtain ⟨w4, hw4⟩ : ∃ w4, w3.alloc (.cells #[.slice (some ⟨g, 0, none⟩) 1 1] 24) = w4 := ⟨_, rfl⟩
  have b4 : Below w3.heap.size w3 w4 := hw4 ▸ below_alloc (Below.refl _ _) _
  have k4 : w4.cell? ⟨w3.heap.size, 0, none⟩ = some (.slice (some ⟨g, 0, none⟩) 1 1) := by rw [← hw4]; exact row_cell (RowAt.new _ _ w3)
  obtain ⟨w5, hw5⟩ : ∃ w5, w4.alloc (.cells #[.int .i64 K] 3) = w5 := ⟨_, rfl⟩
  have b5 : Below w4.heap.size w4 w5 := hw5 ▸ below_alloc (Below.refl _ _) _
  have k5 := cell_below b5 k4
  have b35 := below_trans b4 b5
  replace BB := Lib.hid (below_trans BB.out (below_trans hB3 b35))
  have H1 := Lib.hid (eval_m (p := selfP) (fuel := 1000) (cp := 1) (c := 1) (HL.out.below BB.out) (hr3.below b35) (hw5 ▸ ints_new (w := w4) (xs := [(K : Int)]) (by simp)) (len1 _) (len1 _) HRR.out.1 HRR.out.2 (n := 0) (by rw [selfR_out]; rfl))
  clear hw2' HS hr3 hB3 b4 b5 b35
  go_wp2_with fail
  (with_reducible refine H1.out.mono ?_)
  rintro e w6 ⟨A6, c6, rfl, hc6, hR6, hB6, hlo6⟩
  replace BB := Lib.hid (below_trans BB.out hB6)
  clear k4 k5 hw4 hw5 hB6 hR6 H1 hlo6 hc6
  obtain ⟨w7, hw7⟩ : ∃ w7, w6.alloc (.cells #[.int .i64 (selfR K).done, .int .i64 (selfR K).value, .slice A6 0 c6, .int .i64 (selfR K).fuel] 61) = w7 := ⟨_, rfl⟩
  have b7 : Below w6.heap.size w6 w7 := hw7 ▸ below_alloc (Below.refl _ _) _
  have X := Lib.hid (hw7 ▸ RowAt.new _ _ w6 : RowAt 61 w6.heap.size [.int .i64 (selfR K).done, .int .i64 (selfR K).value, .slice A6 0 c6, .int .i64 (selfR K).fuel] w7)
  replace BB := Lib.hid (below_trans BB.out b7)
  clear b7
  go_wp2_with fail
  clear hw7
  have HK16 := Lib.hid hK
  go_loopw [7, 8] (fun v i wr => ∃ j : Nat, v = .int .i64 (factN (j + 1)) ∧ i = .int .i64 ((j : Int) + 2) ∧ j ≤ K - 1 ∧ Below w7.heap.size w7 wr) (fun _ i _ => 20 - (intOf i).toNat)
  case atStart => exact ⟨0, rfl, rfl, Nat.zero_le _, Below.refl _ _⟩
  case round =>
    obtain ⟨j, rfl, rfl, hj, hb⟩ := hrel
    by_cases hlt : j + 2 ≤ K
    · have t0 : decide ((j : Int) + 2 ≤ (K : Int)) = true := decide_eq_true (by omega)
      have hf := calls_at (k := j + 2) (by have := HK15.out; omega)
      have e1 : wrap64 (factN (j + 1) * ((j : Int) + 2)) = factN (j + 2) := by
        have h2 : factN (j + 2) = factN (j + 1) * ((j : Int) + 2) := by
          show factN (j + 1) * (((j + 1) + 1 : Nat) : Int) = _
          congr 1
        rw [← h2]
        have h3 := hf.2.2.1
        have h4 := hf.2.2.2
        generalize factN (j + 2) = z at *
        unfold wrap64; omega
      have e2 : wrap64 ((j : Int) + 2 + 1) = (j : Int) + 3 := by have := HK15.out; unfold wrap64; omega
      have HB := Lib.hid hb
      have HJ := Lib.hid (show j + 1 ≤ K - 1 ∧ j + 2 ≤ 16 by have := HK15.out; omega)
      clear hb hj hf hlt
      go_wp2_with fail
      go_roundw
      case rel => exact ⟨j + 1, by rw [e1], by rw [e2, show ((j + 1 : Nat) : Int) + 2 = (j : Int) + 3 by omega], HJ.out.1, HB.out⟩
      case measure =>
        have h16 := HJ.out.2
        rw [e2]
        show 20 - ((j : Int) + 3).toNat < 20 - ((j : Int) + 2).toNat
        omega
    · have t0 : decide ((j : Int) + 2 ≤ (K : Int)) = false := decide_eq_false (by omega)
      have x0 : wr.cell? ⟨w6.heap.size, 0, none⟩ = some (.int .i64 (selfR K).done) := (X.out.below hb).cell (k := 0) (by simp)
      have x1 : wr.cell? ⟨w6.heap.size, 1, none⟩ = some (.int .i64 (selfR K).value) := (X.out.below hb).cell (k := 1) (by simp)
      have x3 : wr.cell? ⟨w6.heap.size, 3, none⟩ = some (.int .i64 (selfR K).fuel) := (X.out.below hb).cell (k := 3) (by simp)
      have BBB := Lib.hid (below_trans BB.out hb)
      have HNUM := Lib.hid (fun (n : Int) (W : World) => numL_any n W)
      have hfk : factN (j + 1) = factN K := by
        rcases Nat.eq_zero_or_pos K with h0 | h0
        · subst h0
          have : j = 0 := by omega
          subst this; rfl
        · have : j + 1 = K := by omega
          rw [this]
      rw [hfk]
      have hk15 := HK15.out
      have e4 : wrap64 (9 * (K : Int)) = 9 * K := by unfold wrap64; omega
      have e5 : wrap64 (1000 - 9 * (K : Int)) = 1000 - 9 * K := by unfold wrap64; omega
      have e6 : wrap64 (1000 - 9 * (K : Int) - 4) = 1000 - 9 * K - 4 := by unfold wrap64; omega
      by_cases h12 : 12 ≤ K
      · have t1 : decide ((12 : Int) ≤ (K : Int)) = true := decide_eq_true (by omega)
        have er : selfR K = ⟨3, 0, [], 916⟩ := by unfold selfR; rw [if_pos h12]
        rw [er] at x0 x1 x3
        clear hb hj hlt hfk h12 er e4 e5 e6
        go_wp2_with (first | (go_at_call 15; (with_reducible refine (HNUM.out _ _).mono ?_); rintro e wn ⟨rfl, rfl⟩) | fail)
        go_ret
        exact ⟨rfl, BBB.out⟩
      · have t1 : decide ((12 : Int) ≤ (K : Int)) = false := decide_eq_false (by omega)
        have er : selfR K = ⟨1, factN K, [], 1000 - 9 * K - 4⟩ := by unfold selfR; rw [if_neg h12]
        rw [er] at x0 x1 x3
        clear hb hj hlt hfk h12 er
        go_wp2_with (first | (go_at_call 15; (with_reducible refine (HNUM.out _ _).mono ?_); rintro e wn ⟨rfl, rfl⟩) | fail)
        go_ret
        exact ⟨rfl, BBB.out⟩
end Go.Proofs.YtpfgklkdldkajaaDoor
