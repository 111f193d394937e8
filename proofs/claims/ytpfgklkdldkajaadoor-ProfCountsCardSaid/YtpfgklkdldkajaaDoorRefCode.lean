/- The document's answer for which code, which programs may be. Conditions: the code, the functions lie in memory as they are said. -/
import Derived.Test.YtpfgklkdldkajaaDoorCode
namespace Go.Proofs.YtpfgklkdldkajaaDoor
open Go.RowKit

set_option maxRecDepth 100000 in
set_option maxHeartbeats 1000000 in
theorem rfuncMay_any (f : Fn) (A : Option Addr) (c : Nat) (w : World) (hr : ReadsC w A f.code) : Calls Tryd.prog 72 #[fnV f A c] w (Ret (.bool (codeMay f.code)) w) := by
  have B : Below w.heap.size w (w.alloc (.cells #[.int .i64 f.args, .int .i64 f.locals, .slice A f.code.length c] 31)) := below_alloc (Below.refl _ _) _
  have c2 : (w.alloc (.cells #[.int .i64 f.args, .int .i64 f.locals, .slice A f.code.length c] 31)).cell? ⟨w.heap.size, 2, none⟩ = some (.slice A f.code.length c) := (blk_cell (blk_new w _) 2).trans rfl
  obtain ⟨a, l, code⟩ := f
  have hn : code.length ≤ 9223372036854775807 := hr.1
  have HR := Lib.hid hr
  have HB := Lib.hid B
  have C2 := Lib.hid c2
  clear hr B c2
  unfold fnV
  simp only [] at HR C2 HB ⊢
  by_cases h1 : code.length < 1
  · have d1 : decide (code.length < 1) = true := by simpa using h1
    have hm : codeMay code = false := by unfold codeMay; rw [decide_eq_false (by omega : ¬ 1 ≤ code.length)]; rfl
    rw [hm]
    go_enter Tryd.func72, Tryd.ntmps72
    go_wp2
    go_ret
    exact ⟨rfl, HB.out⟩
  by_cases h2 : 64 < code.length
  · have d1 : decide (code.length < 1) = false := by simpa using h1
    have d2 : decide (64 < code.length) = true := by simpa using h2
    have hm : codeMay code = false := by unfold codeMay; rw [decide_eq_false (by omega : ¬ code.length ≤ 64)]; simp
    rw [hm]
    go_enter Tryd.func72, Tryd.ntmps72
    go_wp2
    go_ret
    exact ⟨rfl, HB.out⟩
  have d1 : decide (code.length < 1) = false := by simpa using h1
  have d2 : decide (64 < code.length) = false := by simpa using h2
  have hm : codeMay code = code.all insMay := by unfold codeMay; rw [decide_eq_true (by omega : code.length ≤ 64), decide_eq_true (by omega : 1 ≤ code.length)]; simp
  rw [hm]
  go_enter Tryd.func72, Tryd.ntmps72
  go_wp2
  go_loopw [3] (fun i wr => ∃ k : Nat, k ≤ code.length ∧ i = .int .i64 k ∧ (∀ j (hj : j < code.length), j < k → insMay code[j] = true) ∧ Below w.heap.size w wr ∧ wr.cell? ⟨w.heap.size, 2, none⟩ = some (.slice A code.length c)) (fun i _ => code.length - (intOf i).toNat)
  case atStart => exact ⟨0, Nat.zero_le _, rfl, fun _ _ h => absurd h (Nat.not_lt_zero _), HB.out, C2.out⟩
  case round =>
    obtain ⟨k, hk, rfl, hv, hB, c2⟩ := hrel
    have HV := Lib.hid hv
    have HB2 := Lib.hid hB
    clear hv hB
    by_cases hlt : k < code.length
    · obtain ⟨ad, rfl, c0, c1⟩ := HR.out.at_ HB2.out hlt
      have HN := Lib.hid (rmay_any code[k] wr)
      unfold Ins.v at HN
      have dk : decide (k < code.length) = true := by simpa using hlt
      cases hm : insMay code[k] with
      | true =>
        rw [hm] at HN
        go_wp2_with fail
        refine HN.out.mono ?_
        rintro e w2 ⟨rfl, hB2⟩
        have c3 := (hB2.cell (World.block_lt_of_cell? wr _ c2)).trans c2
        have HB3 := Lib.hid (below_trans HB2.out hB2)
        clear hB2
        go_wp2
        go_roundw
        case rel => exact ⟨k + 1, by omega, by go_num, upto_succ HV.out hlt hm, HB3.out, c3⟩
        case measure => simp only [intOf]; omega
      | false =>
        rw [hm] at HN
        go_wp2_with fail
        refine HN.out.mono ?_
        rintro e w2 ⟨rfl, hB2⟩
        have HB3 := Lib.hid (below_trans HB2.out hB2)
        clear hB2
        go_wp2
        go_ret
        exact ⟨ret_bool (all_not hlt hm).symm, HB3.out⟩
    · have dk : decide (k < code.length) = false := by simpa using hlt
      go_wp2
      go_ret
      exact ⟨ret_bool (all_upto (by omega) HV.out).symm, HB2.out⟩

theorem fnMay_code (f : Fn) : fnMay f = (decide (0 ≤ f.args) && decide (f.args ≤ 4) && decide (f.args ≤ f.locals) && decide (f.locals ≤ 8) && codeMay f.code) := by
  unfold fnMay codeMay
  simp only [Bool.and_assoc]
set_option maxRecDepth 100000 in
set_option maxHeartbeats 2000000 in
theorem rpacks_any (p : List Fn) (A : Option Addr) (c : Nat) (w : World) (hr : ReadsF w A p) : Calls Tryd.prog 42 #[.agg #[.slice A p.length c]] w (Ret (.bool (packs p)) w) := by
  have B : Below w.heap.size w (w.alloc (.cells #[.slice A p.length c] 24)) := below_alloc (Below.refl _ _) _
  have c2 : (w.alloc (.cells #[.slice A p.length c] 24)).cell? ⟨w.heap.size, 0, none⟩ = some (.slice A p.length c) := (blk_cell (blk_new w _) 0).trans rfl
  have hn : p.length ≤ 9223372036854775807 := hr.1
  have HR := Lib.hid hr
  have HB := Lib.hid B
  have C2 := Lib.hid c2
  clear hr B c2
  by_cases h1 : p.length < 1
  · have d1 : decide (p.length < 1) = true := by simpa using h1
    have hm : packs p = false := by unfold packs; rw [decide_eq_false (by omega : ¬ 1 ≤ p.length)]; rfl
    rw [hm]
    go_enter Tryd.func42, Tryd.ntmps42
    go_wp2
    go_ret
    exact ⟨rfl, HB.out⟩
  by_cases h2 : 8 < p.length
  · have d1 : decide (p.length < 1) = false := by simpa using h1
    have d2 : decide (8 < p.length) = true := by simpa using h2
    have hm : packs p = false := by unfold packs; rw [decide_eq_false (by omega : ¬ p.length ≤ 8)]; simp
    rw [hm]
    go_enter Tryd.func42, Tryd.ntmps42
    go_wp2
    go_ret
    exact ⟨rfl, HB.out⟩
  have d1 : decide (p.length < 1) = false := by simpa using h1
  have d2 : decide (8 < p.length) = false := by simpa using h2
  have hm : packs p = p.all fnMay := by unfold packs; rw [decide_eq_true (by omega : p.length ≤ 8), decide_eq_true (by omega : 1 ≤ p.length)]; simp
  rw [hm]
  go_enter Tryd.func42, Tryd.ntmps42
  go_wp2
  go_loopw [3] (fun i wr => ∃ k : Nat, k ≤ p.length ∧ i = .int .i64 k ∧ (∀ j (hj : j < p.length), j < k → fnMay p[j] = true) ∧ Below w.heap.size w wr ∧ wr.cell? ⟨w.heap.size, 0, none⟩ = some (.slice A p.length c)) (fun i _ => p.length - (intOf i).toNat)
  case atStart => exact ⟨0, Nat.zero_le _, rfl, fun _ _ h => absurd h (Nat.not_lt_zero _), HB.out, C2.out⟩
  case round =>
    obtain ⟨k, hk, rfl, hv, hB, c2⟩ := hrel
    have HV := Lib.hid hv
    have HB2 := Lib.hid hB
    clear hv hB
    by_cases hlt : k < p.length
    · obtain ⟨ad, rfl, c0, c1, Ac, cc, c3, rc⟩ := HR.out.at_ HB2.out hlt
      have dk : decide (k < p.length) = true := by simpa using hlt
      have b1 : Below wr.heap.size wr (wr.alloc (.cells #[.int .i64 p[k].args, .int .i64 p[k].locals, .slice Ac p[k].code.length cc] 31)) := below_alloc (Below.refl _ _) _
      have HN := Lib.hid (rfuncMay_any p[k] Ac cc _ (rc.below b1))
      have HB3 := Lib.hid (below_trans HB2.out b1)
      have c4 := (b1.cell (World.block_lt_of_cell? wr _ c2)).trans c2
      clear rc b1
      unfold fnV at HN
      have hf := fnMay_code p[k]
      by_cases hq : 0 ≤ p[k].args ∧ p[k].args ≤ 4 ∧ p[k].args ≤ p[k].locals ∧ p[k].locals ≤ 8
      · obtain ⟨q1, q2, q3, q4⟩ := hq
        rw [decide_eq_true q1, decide_eq_true q2, decide_eq_true q3, decide_eq_true q4] at hf
        have e1 : decide (p[k].args < 0) = false := by simpa using q1
        have e2 : decide (4 < p[k].args) = false := by simpa using q2
        have e3 : decide (p[k].locals < p[k].args) = false := by simpa using q3
        have e4 : decide (8 < p[k].locals) = false := by simpa using q4
        cases hm : codeMay p[k].code with
        | true =>
          rw [hm] at HN hf
          have HF := Lib.hid hf
          clear hf
          go_wp2_with (go_at_call 72; refine HN.out.mono ?_; rintro e w2 ⟨rfl, hB2⟩)
          have c5 := (hB2.cell (World.block_lt_of_cell? _ _ c4)).trans c4
          go_roundw
          case rel => exact ⟨k + 1, by omega, by go_num, upto_succ HV.out hlt (by rw [HF.out]; rfl), below_trans HB3.out hB2, c5⟩
          case measure => simp only [intOf]; omega
        | false =>
          rw [hm] at HN hf
          have HF := Lib.hid hf
          clear hf
          go_wp2_with (go_at_call 72; refine HN.out.mono ?_; rintro e w2 ⟨rfl, hB2⟩)
          go_ret
          exact ⟨ret_bool (all_not hlt (by rw [HF.out]; rfl)).symm, below_trans HB3.out hB2⟩
      · have hf2 : fnMay p[k] = false := by
          rw [hf]; simp; intro a1 a2 a3 a4; exact absurd ⟨a1, a2, a3, a4⟩ hq
        have HF := Lib.hid hf2
        clear hf hf2
        by_cases q1 : p[k].args < 0
        · have e1 : decide (p[k].args < 0) = true := by simpa using q1
          go_wp2_with fail
          go_ret
          exact ⟨ret_bool (all_not hlt HF.out).symm, HB3.out⟩
        have e1 : decide (p[k].args < 0) = false := by simpa using q1
        by_cases q2 : 4 < p[k].args
        · have e2 : decide (4 < p[k].args) = true := by simpa using q2
          go_wp2_with fail
          go_ret
          exact ⟨ret_bool (all_not hlt HF.out).symm, HB3.out⟩
        have e2 : decide (4 < p[k].args) = false := by simpa using q2
        by_cases q3 : p[k].locals < p[k].args
        · have e3 : decide (p[k].locals < p[k].args) = true := by simpa using q3
          go_wp2_with fail
          go_ret
          exact ⟨ret_bool (all_not hlt HF.out).symm, HB3.out⟩
        have e3 : decide (p[k].locals < p[k].args) = false := by simpa using q3
        have e4 : decide (8 < p[k].locals) = true := by simp; omega
        go_wp2_with fail
        go_ret
        exact ⟨ret_bool (all_not hlt HF.out).symm, HB3.out⟩
    · have dk : decide (k < p.length) = false := by simpa using hlt
      go_wp2
      go_ret
      exact ⟨ret_bool (all_upto (by omega) HV.out).symm, HB2.out⟩
end Go.Proofs.YtpfgklkdldkajaaDoor
