/- The document's 'Numbers', 'Height', 'frame', 'FrameMay', 'Behind' answer what the plain definitions say. Conditions: the program, the frame lie in memory as they are said. -/
import Derived.Test.YtdjlaglilokjeaaGreatDoorLawKit
namespace Go.Proofs.YtdjlaglilokjeaaGreatDoor
open Go.RowKit

def numbersB (xs : List Int) (k : Int) : Bool := xs.all isNum && decide ((xs.length : Int) = k)
set_option maxHeartbeats 1000000 in
theorem numbers_any (A : Option Addr) (c : Nat) (xs : List Int) (k : Int) (w : World) (hr : ReadsI w A xs) :
    Calls Tryz.prog 25 #[.slice A xs.length c, .int .i64 k] w fun e w' => e = .returned (.bool (numbersB xs k)) ∧ w' = w := by
  have HR := Lib.hid hr
  have hn : xs.length ≤ 9223372036854775807 := hr.1
  clear hr
  go_enter Tryz.func25, Tryz.ntmps25
  go_wp2_with fail
  go_loop [5] (fun i => ∃ j : Nat, j ≤ xs.length ∧ i = .int .i64 j ∧ (∀ i (hj : i < xs.length), i < j → isNum xs[i] = true)) (fun i => xs.length - (intOf i).toNat)
  case atStart => exact ⟨0, Nat.zero_le _, rfl, fun _ _ h => absurd h (Nat.not_lt_zero _)⟩
  case round =>
    obtain ⟨j, hj, rfl, hv⟩ := hrel
    have HV := Lib.hid hv
    clear hv
    by_cases hlt : j < xs.length
    · obtain ⟨ad, rfl, hc⟩ := HR.out.at_ hlt
      have HI := Lib.hid (number_any xs[j])
      obtain ⟨x, hx⟩ : ∃ x, isNum xs[j] = x := ⟨_, rfl⟩
      rw [hx] at HI
      have HX := Lib.hid hx
      clear hx
      cases x with
      | true =>
        go_wp2_with (go_at_call 34; refine (HI.out _).mono ?_; rintro e w' ⟨rfl, rfl⟩)
        go_round
        case rel => exact ⟨j + 1, by omega, by go_num, upto_succ HV.out hlt HX.out⟩
        case measure => simp only [intOf]; omega
      | false =>
        go_wp2_with (go_at_call 34; refine (HI.out _).mono ?_; rintro e w' ⟨rfl, rfl⟩)
        go_ret
        exact ⟨ret_bool (by unfold numbersB; rw [all_not hlt HX.out]; rfl), rfl⟩
    · have HE := Lib.hid (show numbersB xs k = decide ((xs.length : Int) = k) by unfold numbersB; rw [all_upto (by omega) HV.out]; rfl)
      go_wp2_with fail
      all_goals go_ret
      all_goals exact ⟨ret_bool (by rw [HE.out]; first | rfl | exact beq_dec _ _ | simp_all), rfl⟩
theorem HeightsE.readsL {r : List Int × Int × Int} {w w' : World} {e : Ending} (h : HeightsE r w e w') : ∃ A c, e = .returned (.tuple #[.slice A r.1.length c, .int .i64 r.2.1, .int .i64 r.2.2]) ∧ ReadsI w' A r.1 ∧ Below w.heap.size w w' := by
  obtain ⟨v, rfl, h1, h2⟩ := h
  obtain ⟨A, c, rfl, _, _⟩ := h1.shape
  exact ⟨A, c, rfl, h1.ints.2, h2⟩
set_option maxRecDepth 100000 in
set_option maxHeartbeats 2000000 in
theorem height_any (p : List Fn) (Ap : Option Addr) (cp : Nat) (fn pc : Int) (w : World) (hr : ReadsF w Ap p) :
    Calls Tryz.prog 43 #[.agg #[.slice Ap p.length cp], .int .i64 fn, .int .i64 pc] w (Ret (.int .i64 (heightAt p fn pc)) w) := by
  obtain ⟨w1, hw1⟩ : ∃ w1, w.alloc (.cells #[.slice Ap p.length cp] 24) = w1 := ⟨_, rfl⟩
  have b1 : Below w.heap.size w w1 := hw1 ▸ below_alloc (Below.refl _ _) _
  have p1 : w1.cell? ⟨w.heap.size, 0, none⟩ = some (.slice Ap p.length cp) := hw1 ▸ (blk_cell (blk_new w _) 0).trans rfl
  have H := Lib.hid (rheights_any p Ap cp fn w1 (hr.below b1))
  have B1 := Lib.hid b1
  have HH := Lib.hid (show heightAt p fn pc = if (heightsOf p fn).2.2 = 0 ∧ 0 ≤ pc then ((heightsOf p fn).1[pc.toNat]?).getD (-1) else -1 from rfl)
  obtain ⟨r, hr'⟩ : ∃ r, heightsOf p fn = r := ⟨_, rfl⟩
  rw [hr'] at H HH
  obtain ⟨hs, pc0, e0⟩ := r
  clear b1 hr hr'
  go_enter Tryz.func43, Tryz.ntmps43
  go_wp2_with fail
  (with_reducible refine H.out.mono ?_)
  rintro e w2 hE
  obtain ⟨A, c, rfl, hrd, hB⟩ := hE.readsL
  have B2 := Lib.hid (below_trans B1.out hB)
  have HRD := Lib.hid hrd
  have hn : hs.length ≤ 9223372036854775807 := hrd.1
  clear hE hrd hB hw1 H
  by_cases h0 : e0 = 0
  case neg =>
    have d0 : (e0 != 0) = true := by simpa using h0
    have HE := Lib.hid h0
    clear h0
    go_wp2_with fail
    go_ret
    exact ⟨ret_int (by rw [HH.out, if_neg (fun h => HE.out h.1)]), B2.out⟩
  subst h0
  by_cases h1 : pc < 0
  · have d1 : decide (pc < 0) = true := by simpa using h1
    go_wp2_with fail
    go_ret
    exact ⟨ret_int (by rw [HH.out, if_neg (fun h => by omega)]), B2.out⟩
  obtain ⟨m, rfl⟩ := Int.eq_ofNat_of_zero_le (Int.not_lt.1 h1)
  by_cases h2 : hs.length ≤ m
  · have d2 : decide (hs.length ≤ m) = true := by simpa using h2
    go_wp2_with fail
    go_ret
    exact ⟨ret_int (by rw [HH.out, if_pos ⟨trivial, by omega⟩, Int.toNat_natCast, List.getElem?_eq_none h2]; rfl), B2.out⟩
  · have hm : m < hs.length := by omega
    have d2 : decide (hs.length ≤ m) = false := by simpa using hm
    obtain ⟨ad, rfl, hc⟩ := HRD.out.at_ hm
    go_wp2_with fail
    go_ret
    exact ⟨ret_int (by rw [HH.out, if_pos ⟨trivial, by omega⟩, Int.toNat_natCast, List.getElem?_eq_getElem hm]; rfl), B2.out⟩
theorem heightAt_fn {p : List Fn} {fn pc : Int} (h : 0 ≤ heightAt p fn pc) : ∃ n : Nat, fn = n ∧ n < p.length := by
  by_cases h1 : 0 ≤ fn ∧ fn < p.length
  · obtain ⟨n, hn⟩ := Int.eq_ofNat_of_zero_le h1.1
    exact ⟨n, hn, by omega⟩
  · rw [heightAt_no h1] at h; exact absurd h (by decide)
end Go.Proofs.YtdjlaglilokjeaaGreatDoor
