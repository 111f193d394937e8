/- EvalSums: the walk. A loop that counts down and adds comes to the sum, and prints what it adds. Condition: errors.errorType is laid. -/
import Derived.Test.YtpfgklkdldkajaaDoorGE25
namespace Go.Proofs.YtpfgklkdldkajaaDoor
open Go.RowKit

def sumC : List Ins := [⟨1, 0⟩, ⟨13, 13⟩, ⟨1, 0⟩, ⟨10, 0⟩, ⟨15, 0⟩, ⟨1, 1⟩, ⟨3, 0⟩, ⟨2, 1⟩, ⟨1, 0⟩, ⟨0, 1⟩, ⟨4, 0⟩, ⟨2, 0⟩, ⟨12, 0⟩, ⟨1, 1⟩, ⟨16, 0⟩]
def sumP : List Fn := [⟨1, 2, sumC⟩]
/-- From k down to what is behind j. -/
def downL (k j : Nat) : List Int := (List.range (k - j)).map fun i => ((k - i : Nat) : Int)
theorem downL_len (k j : Nat) : (downL k j).length = k - j := by simp [downL]
theorem downL_next {k j : Nat} (h : j + 1 ≤ k) : downL k j = downL k (j + 1) ++ [((j + 1 : Nat) : Int)] := by
  unfold downL
  rw [show k - j = (k - (j + 1)) + 1 by omega, List.range_succ, List.map_append]
  simp only [List.map_cons, List.map_nil]
  rw [show k - (k - (j + 1)) = j + 1 by omega]
theorem sums_all : ((List.range 32).all fun k => decide (evalR sumP [(k : Int)] 1000 = ⟨1, (k : Int) * (k + 1) / 2, downL k 0, 1000 - 13 * k - 4⟩) && decide (evalC sumP [(k : Int)] 1000 = 0) && decide ((k : Int) * (k + 1) ≤ 992) && decide ((k : Int) * (k + 1) / 2 = ((k : Int) * (k + 1)).tdiv 2)) = true := by kernel_rfl
theorem sums_at {k : Nat} (h : k < 32) : evalR sumP [(k : Int)] 1000 = ⟨1, (k : Int) * (k + 1) / 2, downL k 0, 1000 - 13 * k - 4⟩ ∧ evalC sumP [(k : Int)] 1000 = 0 ∧ (k : Int) * (k + 1) ≤ 992 ∧ (k : Int) * (k + 1) / 2 = ((k : Int) * (k + 1)).tdiv 2 := by
  have := List.all_eq_true.1 sums_all k (List.mem_range.2 h)
  simp only [Bool.and_eq_true, decide_eq_true_eq] at this
  exact ⟨this.1.1.1, this.1.1.2, this.1.2, this.2⟩
set_option maxRecDepth 100000 in
set_option maxHeartbeats 8000000 in
theorem evalSums_yes (many : Int) (W : World) (hl : Laid W) : Calls Tryd.prog 8 #[.int .i64 many] W (Ret (.bool true) W) := by
  obtain ⟨K, hK, K31⟩ : ∃ K : Nat, bits .and .i64 many 31 = K ∧ K < 32 := ⟨(many % 32).toNat, by rw [i64_m31]; omega, by omega⟩
  obtain ⟨hR, hC, hmul, hquo⟩ := sums_at K31
  have HA := Lib.hid (awake8_any W hl)
  have HL := Lib.hid hl
  have HRR := Lib.hid (And.intro hR hC)
  have HMM := Lib.hid (And.intro hmul hquo)
  have HK31 := Lib.hid K31
  clear hl hR hC hmul hquo K31
  go_enter Tryd.func8, Tryd.ntmps8
  go_wp2_with fail
  (with_reducible refine HA.out.mono ?_)
  rintro e w1 ⟨rfl, hB1⟩
  obtain ⟨w2, hw2⟩ : ∃ w2, w1.alloc (.cells (insV sumC).toArray 28) = w2 := ⟨_, rfl⟩
  have b2 : Below w1.heap.size w1 w2 := hw2 ▸ below_alloc (Below.refl _ _) _
  have rc : RowAt 28 w1.heap.size (insV sumC) w2 := hw2 ▸ RowAt.new _ _ w1
  have HS := Lib.hid (show Calls Tryd.prog 29 #[.int .i64 1, .int .i64 2, .slice (some ⟨w1.heap.size, 0, none⟩) 15 15] w2 (ProgL sumP 1 w2) from small_any 1 2 _ 15 sumC w2 (codeL rc (by simp [sumC])))
  have BB := Lib.hid (below_trans hB1 b2)
  have hw2' : w1.alloc (.cells #[.int .i64 1, .int .i64 0, .int .i64 13, .int .i64 13, .int .i64 1, .int .i64 0, .int .i64 10, .int .i64 0, .int .i64 15, .int .i64 0, .int .i64 1, .int .i64 1, .int .i64 3, .int .i64 0, .int .i64 2, .int .i64 1, .int .i64 1, .int .i64 0, .int .i64 0, .int .i64 1, .int .i64 4, .int .i64 0, .int .i64 2, .int .i64 0, .int .i64 12, .int .i64 0, .int .i64 1, .int .i64 1, .int .i64 16, .int .i64 0] 28) = w2 := hw2
  clear hw2 hB1 b2 rc HA
  go_wp2_with fail
  (with_reducible refine HS.out.mono ?_)
  rintro e w3 ⟨g, rfl, hr3, hB3⟩
  obtain ⟨w4, hw4⟩ : ∃ w4, w3.alloc (.cells #[.slice (some ⟨g, 0, none⟩) 1 1] 24) = w4 := ⟨_, rfl⟩
  have b4 : Below w3.heap.size w3 w4 := hw4 ▸ below_alloc (Below.refl _ _) _
  have P4 := hw4 ▸ (RowAt.new _ _ w3 : RowAt 24 w3.heap.size [.slice (some ⟨g, 0, none⟩) 1 1] _)
  have k4 : w4.cell? ⟨w3.heap.size, 0, none⟩ = some (.slice (some ⟨g, 0, none⟩) 1 1) := by rw [← hw4]; exact row_cell (RowAt.new _ _ w3)
  obtain ⟨w5, hw5⟩ : ∃ w5, w4.alloc (.cells #[.int .i64 K] 3) = w5 := ⟨_, rfl⟩
  have b5 : Below w4.heap.size w4 w5 := hw5 ▸ below_alloc (Below.refl _ _) _
  have k5 := cell_below b5 k4
  have b35 := below_trans b4 b5
  replace BB := Lib.hid (below_trans BB.out (below_trans hB3 b35))
  have H1 := Lib.hid (eval_m (p := sumP) (fuel := 1000) (cp := 1) (c := 1) (HL.out.below BB.out) (hr3.below b35) (hw5 ▸ ints_new (w := w4) (xs := [(K : Int)]) (by simp)) (len1 _) (len1 _) HRR.out.1 HRR.out.2 (n := K) (by show (downL K 0).length = K; rw [downL_len]; rfl))
  clear hw2' HS hr3 hB3 b4 P4 b5 b35
  go_wp2_with fail
  (with_reducible refine H1.out.mono ?_)
  rintro e w6 ⟨A6, c6, rfl, hc6, hR6, hB6, hlo6⟩
  simp only []
  have RO := Lib.hid hR6
  replace BB := Lib.hid (below_trans BB.out hB6)
  clear k4 k5 hw4 hw5 hB6 hR6 H1 hlo6 hc6
  obtain ⟨w7, hw7⟩ : ∃ w7, w6.alloc (.cells #[.int .i64 1, .int .i64 ((K : Int) * (K + 1) / 2), .slice A6 K c6, .int .i64 (1000 - 13 * K - 4)] 61) = w7 := ⟨_, rfl⟩
  have b7 : Below w6.heap.size w6 w7 := hw7 ▸ below_alloc (Below.refl _ _) _
  have X := Lib.hid (hw7 ▸ RowAt.new _ _ w6 : RowAt 61 w6.heap.size [.int .i64 1, .int .i64 ((K : Int) * (K + 1) / 2), .slice A6 K c6, .int .i64 (1000 - 13 * K - 4)] w7)
  replace RO := Lib.hid (RO.out.below b7)
  replace BB := Lib.hid (below_trans BB.out b7)
  clear b7
  go_wp2_with fail
  clear hw7
  have HK32 := Lib.hid hK
  go_loopw [7, 8] (fun v i wr => ∃ j : Nat, j ≤ K ∧ i = .int .i64 j ∧ CRow wr w7.heap.size 3 1 v (K - j) (intsV (downL K j)) ∧ Below w7.heap.size w7 wr) (fun _ i _ => (intOf i).toNat)
  case atStart => exact ⟨K, Nat.le_refl _, rfl, by rw [Nat.sub_self, show downL K K = [] by simp [downL]]; exact CRow.nil _ _ _ _, Below.refl _ _⟩
  case round =>
    obtain ⟨j, hj, rfl, hc, hb⟩ := hrel
    obtain ⟨ao, cap, rfl, _, _⟩ := hc.shape
    by_cases h0 : j = 0
    · subst h0
      have hcr := hc.ints
      have x0 : wr.cell? ⟨w6.heap.size, 0, none⟩ = some (.int .i64 1) := (X.out.below hb).cell (k := 0) (by simp)
      have x1 : wr.cell? ⟨w6.heap.size, 1, none⟩ = some (.int .i64 ((K : Int) * (K + 1) / 2)) := (X.out.below hb).cell (k := 1) (by simp)
      have x2 : wr.cell? ⟨w6.heap.size, 2, none⟩ = some (.slice A6 K c6) := (X.out.below hb).cell (k := 2) (by simp)
      have x3 : wr.cell? ⟨w6.heap.size, 3, none⟩ = some (.int .i64 (1000 - 13 * K - 4)) := (X.out.below hb).cell (k := 3) (by simp)
      have hk := HK31.out
      have hm := HMM.out
      have e1 : wrap64 ((K : Int) + 1) = K + 1 := by unfold wrap64; omega
      have hp0 : 0 ≤ (K : Int) * (K + 1) := by
        have : (0 : Int) ≤ ((K * (K + 1) : Nat) : Int) := by omega
        simpa using this
      have e2 : wrap64 ((K : Int) * (K + 1)) = K * (K + 1) := by
        have h1 := hm.1
        generalize (K : Int) * (K + 1) = z at *
        unfold wrap64; omega
      have e3 : wrap64 (((K : Int) * (K + 1)).tdiv 2) = K * (K + 1) / 2 := by
        rw [← hm.2]
        have h1 := hm.1
        generalize (K : Int) * (K + 1) = z at *
        unfold wrap64; omega
      have e4 : wrap64 (13 * (K : Int)) = 13 * K := by unfold wrap64; omega
      have e5 : wrap64 (1000 - 13 * (K : Int)) = 1000 - 13 * K := by unfold wrap64; omega
      have e6 : wrap64 (1000 - 13 * (K : Int) - 4) = 1000 - 13 * K - 4 := by unfold wrap64; omega
      have HS := Lib.hid (same_n (x := ⟨1, (K : Int) * (K + 1) / 2, downL K 0, 1000 - 13 * K - 4⟩) (y := ⟨1, (K : Int) * (K + 1) / 2, downL K 0, 1000 - 13 * K - 4⟩) (A := A6) (B := ao) (c := c6) (d := cap) (n := K) (m := K) (b := true) (w := wr) (RO.out.below hb) hcr (downL_len K 0) (downL_len K 0) (by simp))
      have BBB := Lib.hid (below_trans BB.out hb)
      have HNUM := Lib.hid (fun (n : Int) (W : World) => numL_any n W)
      clear hc hb hcr hm hp0 hk hj
      go_wp2_with (first | (go_at_call 15; (with_reducible refine (HNUM.out _ _).mono ?_); rintro e wn ⟨rfl, rfl⟩) | (go_at_call 28; (with_reducible refine HS.out.mono ?_); rintro e wa ⟨rfl, hBa⟩; have HBA := Lib.hid hBa; clear hBa) | fail)
      go_ret
      exact ⟨rfl, below_trans BBB.out HBA.out⟩
    · obtain ⟨q, rfl⟩ : ∃ q, j = q + 1 := ⟨j - 1, by omega⟩
      have t0 : decide ((0 : Int) < ((q + 1 : Nat) : Int)) = true := decide_eq_true (by omega)
      have t1 : decide ((0 : Int) < (q : Int) + 1) = true := decide_eq_true (by omega)
      have e1 : wrap64 ((q : Int) + 1 - 1) = q := by have := HK31.out; unfold wrap64; omega
      have e2 : IntKind.i64.wrap ((q : Int) + 1 - 1) = q := by rw [IntKind.wrap_i64]; have := HK31.out; omega
      have e3 : wrap64 (q : Int) = q := by have := HK31.out; unfold wrap64; omega
      have b2 := below_alloc (Below.refl wr.heap.size wr) (.cells #[.int .i64 ((q : Int) + 1)] 3)
      have rN := RowAt.new 3 (intsV [(q : Int) + 1]) wr
      have hsrc : Src Tryd.prog 1 32 (.slice (some ⟨wr.heap.size, 0, none⟩) 1 1) 1 (intsV [(q : Int) + 1]) (wr.alloc (.cells #[.int .i64 ((q : Int) + 1)] 3)) := ints_src (xs := [(q : Int) + 1]) Tryd.underlying32 (intsL (xs := [(q : Int) + 1]) rN (by simp)) (fun e => by cases e)
      obtain ⟨ii, hi, hz0, hsz, hbb⟩ := info_parts info_int
      obtain ⟨v', wn, hrun, hG⟩ := run_append_crow (P := Tryd.prog) (wr.alloc (.cells #[.int .i64 ((q : Int) + 1)] 3)) 32 3 32 32 ii (.int .i64 0) 1 8 Tryd.underlying32 hi hz0 hsz hbb rfl w7.heap.size ao (K - (q + 1)) cap (intsV (downL K (q + 1))) (hc.below b2) (by have := hb.size; have := b2.size; omega)
        (.slice (some ⟨wr.heap.size, 0, none⟩) 1 1) 1 (intsV [(q : Int) + 1]) hsrc (by have := HK31.out; omega) (by unfold maxLen; have := HK31.out; omega)
      have hrow := hG.row
      rw [show intsV (downL K (q + 1)) ++ intsV [(q : Int) + 1] = intsV (downL K q) by rw [downL_next hj]; simp [intsV], show K - (q + 1) + 1 = K - q by omega] at hrow
      have HN := Lib.hid (show CRow wn w7.heap.size 3 1 v' (K - q) (intsV (downL K q)) ∧ Below w7.heap.size w7 wn from ⟨hrow, Chg.below (below_trans hb b2) hG.chg (fun b e => (hc.in_ b e).1)⟩)
      have HJ := Lib.hid hj
      clear hc hb hsrc rN b2 hi hz0 hsz hbb hG hrow hj h0
      go_wp2_with (first | (at_builtin; refine wpList_append_run _ rfl _ _ _ _ rfl _ _ _ _ rfl rfl hrun ?_) | fail)
      go_roundw
      case rel => exact ⟨q, Nat.le_of_succ_le HJ.out, by rw [e3], HN.out.1, HN.out.2⟩
      case measure =>
        rw [e3]
        show ((q : Int)).toNat < (((q + 1 : Nat) : Int)).toNat
        rw [Int.toNat_natCast, Int.toNat_natCast]; exact Nat.lt_succ_self q
end Go.Proofs.YtpfgklkdldkajaaDoor
