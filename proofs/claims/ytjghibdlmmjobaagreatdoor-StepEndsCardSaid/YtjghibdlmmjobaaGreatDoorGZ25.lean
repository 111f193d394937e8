/- 'SameResult', 'Begins'; 'eval.Go' of a state that may not be. Conditions: the lists lie in memory; errors.errorType is laid. The document's 'Numbers', 'Height', 'frame', 'FrameMay', 'Behind' answer what the plain definitions say. Conditions: the program, the frame lie in memory as they are said. The document's 'frame', 'FrameMay', 'Behind', 'StateMay' answer what the plain definitions say. Conditions: the program, the frames lie in memory as they are said. -/
import Derived.Test.YtjghibdlmmjobaaGreatDoorGZ24
import Derived.Test.YtjghibdlmmjobaaGreatDoorGZ13
import Derived.Test.YtjghibdlmmjobaaGreatDoorGZ12
import Derived.Test.YtjghibdlmmjobaaGreatDoorGZ15
namespace Go.Proofs.YtjghibdlmmjobaaGreatDoor
open Go.RowKit

instance : DecidableEq Rst := fun x y => if h : x.done = y.done ∧ x.value = y.value ∧ x.out = y.out ∧ x.fuel = y.fuel then isTrue (by cases x; cases y; obtain ⟨h1, h2, h3, h4⟩ := h; simp only at h1 h2 h3 h4; rw [h1, h2, h3, h4]) else isFalse (fun e => h (by rw [e]; exact ⟨rfl, rfl, rfl, rfl⟩))
def resV (r : Rst) (A : Option Addr) (c : Nat) : Value := .agg #[.int .i64 r.done, .int .i64 r.value, .slice A r.out.length c, .int .i64 r.fuel]
/-- Is one list a beginning of the other? -/
def beginsB (xs ys : List Int) : Bool := decide (xs.length ≤ ys.length) && decide (xs = ys.take xs.length)
theorem reads_take {w : World} {A : Option Addr} {xs : List Int} {m : Nat} (h : ReadsI w A xs) : ReadsI w A (xs.take m) :=
  ⟨by rw [List.length_take]; have := h.1; omega, fun h0 => by
    rw [List.length_take] at h0
    obtain ⟨ad, e, hc⟩ := h.2 (by omega)
    exact ⟨ad, e, fun j hj => by rw [List.length_take] at hj; rw [List.getElem_take]; exact hc j (by omega)⟩⟩
end Go.Proofs.YtjghibdlmmjobaaGreatDoor

namespace Go.Proofs.YtjghibdlmmjobaaGreatDoor
open Go.RowKit

def numbersB (xs : List Int) (k : Int) : Bool := xs.all isNum && decide ((xs.length : Int) = k)
set_option maxHeartbeats 1000000 in
theorem numbers_any (A : Option Addr) (c : Nat) (xs : List Int) (k : Int) (w : World) (hr : ReadsI w A xs) :
    Calls Tryz.prog 69 #[.slice A xs.length c, .int .i64 k] w fun e w' => e = .returned (.bool (numbersB xs k)) ∧ w' = w := by
  have HR := Lib.hid hr
  have hn : xs.length ≤ 9223372036854775807 := hr.1
  clear hr
  go_enter Tryz.func69, Tryz.ntmps69
  go_wp2_with fail
  go_loop [5] (fun i => ∃ j : Nat, j ≤ xs.length ∧ i = .int .i64 j ∧ (∀ i (hj : i < xs.length), i < j → isNum xs[i] = true)) (fun i => xs.length - (intOf i).toNat)
  case atStart => exact ⟨0, Nat.zero_le _, rfl, fun _ _ h => absurd h (Nat.not_lt_zero _)⟩
  case round =>
    obtain ⟨j, hj, rfl, hv⟩ := hrel
    have HV := Lib.hid hv
    clear hv
    by_cases hlt : j < xs.length
    · obtain ⟨ad, rfl, hc⟩ := HR.out.at_ hlt
      have HI := Lib.hid (number_any xs[j])
      obtain ⟨x, hx⟩ : ∃ x, isNum xs[j] = x := ⟨_, rfl⟩
      rw [hx] at HI
      have HX := Lib.hid hx
      clear hx
      cases x with
      | true =>
        go_wp2_with (go_at_call 76; refine (HI.out _).mono ?_; rintro e w' ⟨rfl, rfl⟩)
        go_round
        case rel => exact ⟨j + 1, by omega, by go_num, upto_succ HV.out hlt HX.out⟩
        case measure => simp only [intOf]; omega
      | false =>
        go_wp2_with (go_at_call 76; refine (HI.out _).mono ?_; rintro e w' ⟨rfl, rfl⟩)
        go_ret
        exact ⟨ret_bool (by unfold numbersB; rw [all_not hlt HX.out]; rfl), rfl⟩
    · have HE := Lib.hid (show numbersB xs k = decide ((xs.length : Int) = k) by unfold numbersB; rw [all_upto (by omega) HV.out]; rfl)
      go_wp2_with fail
      all_goals go_ret
      all_goals exact ⟨ret_bool (by rw [HE.out]; first | rfl | exact beq_dec _ _ | simp_all), rfl⟩
theorem HeightsE.readsL {r : List Int × Int × Int} {w w' : World} {e : Ending} (h : HeightsE r w e w') : ∃ A c, e = .returned (.tuple #[.slice A r.1.length c, .int .i64 r.2.1, .int .i64 r.2.2]) ∧ ReadsI w' A r.1 ∧ Below w.heap.size w w' := by
  obtain ⟨v, rfl, h1, h2⟩ := h
  obtain ⟨A, c, rfl, _, _⟩ := h1.shape
  exact ⟨A, c, rfl, h1.ints.2, h2⟩
set_option maxRecDepth 100000 in
set_option maxHeartbeats 2000000 in
theorem height_any (p : List Fn) (Ap : Option Addr) (cp : Nat) (fn pc : Int) (w : World) (hr : ReadsF w Ap p) :
    Calls Tryz.prog 90 #[.agg #[.slice Ap p.length cp], .int .i64 fn, .int .i64 pc] w (Ret (.int .i64 (heightAt p fn pc)) w) := by
  obtain ⟨w1, hw1⟩ : ∃ w1, w.alloc (.cells #[.slice Ap p.length cp] 24) = w1 := ⟨_, rfl⟩
  have b1 : Below w.heap.size w w1 := hw1 ▸ below_alloc (Below.refl _ _) _
  have p1 : w1.cell? ⟨w.heap.size, 0, none⟩ = some (.slice Ap p.length cp) := hw1 ▸ (blk_cell (blk_new w _) 0).trans rfl
  have H := Lib.hid (rheights_any p Ap cp fn w1 (hr.below b1))
  have B1 := Lib.hid b1
  have HH := Lib.hid (show heightAt p fn pc = if (heightsOf p fn).2.2 = 0 ∧ 0 ≤ pc then ((heightsOf p fn).1[pc.toNat]?).getD (-1) else -1 from rfl)
  obtain ⟨r, hr'⟩ : ∃ r, heightsOf p fn = r := ⟨_, rfl⟩
  rw [hr'] at H HH
  obtain ⟨hs, pc0, e0⟩ := r
  clear b1 hr hr'
  go_enter Tryz.func90, Tryz.ntmps90
  go_wp2_with fail
  (with_reducible refine H.out.mono ?_)
  rintro e w2 hE
  obtain ⟨A, c, rfl, hrd, hB⟩ := hE.readsL
  have B2 := Lib.hid (below_trans B1.out hB)
  have HRD := Lib.hid hrd
  have hn : hs.length ≤ 9223372036854775807 := hrd.1
  clear hE hrd hB hw1 H
  by_cases h0 : e0 = 0
  case neg =>
    have d0 : (e0 != 0) = true := by simpa using h0
    have HE := Lib.hid h0
    clear h0
    go_wp2_with fail
    go_ret
    exact ⟨ret_int (by rw [HH.out, if_neg (fun h => HE.out h.1)]), B2.out⟩
  subst h0
  by_cases h1 : pc < 0
  · have d1 : decide (pc < 0) = true := by simpa using h1
    go_wp2_with fail
    go_ret
    exact ⟨ret_int (by rw [HH.out, if_neg (fun h => by omega)]), B2.out⟩
  obtain ⟨m, rfl⟩ := Int.eq_ofNat_of_zero_le (Int.not_lt.1 h1)
  by_cases h2 : hs.length ≤ m
  · have d2 : decide (hs.length ≤ m) = true := by simpa using h2
    go_wp2_with fail
    go_ret
    exact ⟨ret_int (by rw [HH.out, if_pos ⟨trivial, by omega⟩, Int.toNat_natCast, List.getElem?_eq_none h2]; rfl), B2.out⟩
  · have hm : m < hs.length := by omega
    have d2 : decide (hs.length ≤ m) = false := by simpa using hm
    obtain ⟨ad, rfl, hc⟩ := HRD.out.at_ hm
    go_wp2_with fail
    go_ret
    exact ⟨ret_int (by rw [HH.out, if_pos ⟨trivial, by omega⟩, Int.toNat_natCast, List.getElem?_eq_getElem hm]; rfl), B2.out⟩
theorem heightAt_fn {p : List Fn} {fn pc : Int} (h : 0 ≤ heightAt p fn pc) : ∃ n : Nat, fn = n ∧ n < p.length := by
  by_cases h1 : 0 ≤ fn ∧ fn < p.length
  · obtain ⟨n, hn⟩ := Int.eq_ofNat_of_zero_le h1.1
    exact ⟨n, hn, by omega⟩
  · rw [heightAt_no h1] at h; exact absurd h (by decide)
end Go.Proofs.YtjghibdlmmjobaaGreatDoor

namespace Go.Proofs.YtjghibdlmmjobaaGreatDoor
open Go.RowKit

theorem frameB_numbers {p : List Fn} {f : Frm} {less h : Int} {g : Fn} {n : Nat} (hn : f.fn = n) (hg : p[n]? = some g) (hh : heightAt p f.fn f.pc = h) (h0 : 0 ≤ h) : frameB p f less = (numbersB f.locals g.locals && numbersB f.stack (h - less)) := by
  rw [frame_parts hn hg hh h0]
  unfold numbersB
  cases decide ((f.locals.length : Int) = g.locals) <;> cases decide ((f.stack.length : Int) = h - less) <;> cases f.locals.all isNum <;> cases f.stack.all isNum <;> rfl
theorem frameB_neg {p : List Fn} {f : Frm} {less : Int} (h : heightAt p f.fn f.pc < 0) : frameB p f less = false := by unfold frameB; rw [decide_eq_false (by omega)]; rfl
theorem ret_drew {b : Bool} {v : Value} {w w1 w2 : World} (e : v = .bool b) (h : Below w.heap.size w w1) (k : ∃ n, w2 = w1.drewN n) : Ret (.bool b) w (.returned v) w2 := by
  obtain ⟨n, rfl⟩ := k
  exact ⟨by rw [e], below_drew h n⟩
theorem heightAt_le {p : List Fn} (hv : verifyOf p = 0) (fn pc : Int) : heightAt p fn pc ≤ 12 := by
  by_cases h : 0 ≤ fn ∧ fn < p.length
  · obtain ⟨n, rfl⟩ := Int.eq_ofNat_of_zero_le h.1
    have hn : n < p.length := by omega
    by_cases h1 : pc < 0
    · rw [heightAt_neg h1]; omega
    · obtain ⟨m, rfl⟩ := Int.eq_ofNat_of_zero_le (Int.not_lt.1 h1)
      by_cases h2 : m < p[n].code.length
      · obtain ⟨_, e, h3⟩ := heightAt_in hv hn h2
        rw [e]; omega
      · rw [heightAt_far hv hn (by omega)]; omega
  · rw [heightAt_no h]; omega
set_option maxRecDepth 100000 in
set_option maxHeartbeats 4000000 in
theorem rframe_any (p : List Fn) (Ap A1 A2 : Option Addr) (cp c1 c2 : Nat) (f : Frm) (less : Int) (w : World) (hv : verifyOf p = 0) (hr : ReadsF w Ap p) (h1 : ReadsI w A1 f.locals) (h2 : ReadsI w A2 f.stack) (h01 : 0 ≤ less ∧ less ≤ 1) :
    Calls Tryz.prog 149 #[.agg #[.slice Ap p.length cp], frV f (.slice A1 f.locals.length c1) (.slice A2 f.stack.length c2), .int .i64 less] w (Ret (.bool (frameB p f less)) w) := by
  obtain ⟨w1, hw1⟩ : ∃ w1, w.alloc (.cells #[.slice Ap p.length cp] 24) = w1 := ⟨_, rfl⟩
  obtain ⟨w2, hw2⟩ : ∃ w2, w1.alloc (.cells #[.int .i64 f.fn, .int .i64 f.pc, .slice A1 f.locals.length c1, .slice A2 f.stack.length c2] 54) = w2 := ⟨_, rfl⟩
  have b1 : Below w.heap.size w w1 := hw1 ▸ below_alloc (Below.refl _ _) _
  have b2 : Below w1.heap.size w1 w2 := hw2 ▸ below_alloc (Below.refl _ _) _
  have R1 := Lib.hid ((hw1 ▸ RowAt.new _ _ w : RowAt 24 w.heap.size [.slice Ap p.length cp] w1).below b2)
  have R2 := Lib.hid (hw2 ▸ RowAt.new _ _ w1 : RowAt 54 w1.heap.size [.int .i64 f.fn, .int .i64 f.pc, .slice A1 f.locals.length c1, .slice A2 f.stack.length c2] w2)
  have B2 := Lib.hid (below_trans b1 b2)
  have RP := Lib.hid (hr.below B2.out)
  have RL := Lib.hid (h1.below B2.out)
  have RS := Lib.hid (h2.below B2.out)
  have H := Lib.hid (height_any p Ap cp f.fn f.pc w2 RP.out)
  have HLE := Lib.hid (heightAt_le hv f.fn f.pc)
  obtain ⟨h, hh⟩ : ∃ h, heightAt p f.fn f.pc = h := ⟨_, rfl⟩
  have HH := Lib.hid hh
  rw [hh] at H HLE
  have k0 := R1.out.cell (k := 0) (by simp)
  have l0 := R2.out.cell (k := 0) (by simp)
  have l1 := R2.out.cell (k := 1) (by simp)
  simp only [List.getElem_cons_zero, List.getElem_cons_succ] at k0 l0 l1
  have hnl := h1.1
  have hns := h2.1
  have hnp := hr.1
  unfold frV
  clear hh b1 b2 hr h1 h2 hv
  go_enter Tryz.func149, Tryz.ntmps149
  go_wp2_with fail
  (with_reducible refine H.out.mono ?_)
  rintro e w3 ⟨rfl, hB⟩
  have B3 := Lib.hid (below_trans B2.out hB)
  have RP3 := Lib.hid (RP.out.below hB)
  have RL3 := Lib.hid (RL.out.below hB)
  have RS3 := Lib.hid (RS.out.below hB)
  have q := R2.out.below hB
  have k0 := (R1.out.below hB).cell (k := 0) (by simp)
  have l0 := q.cell (k := 0) (by simp)
  have l2 := q.cell (k := 2) (by simp)
  have l3 := q.cell (k := 3) (by simp)
  simp only [List.getElem_cons_zero, List.getElem_cons_succ] at k0 l0 l2 l3
  clear H hB q hw1 hw2
  by_cases h0 : h < 0
  · have HE := Lib.hid (frameB_neg (less := less) (show heightAt p f.fn f.pc < 0 by rw [HH.out]; exact h0))
    have d0 : decide (0 ≤ h) = false := by simpa using h0
    go_wp2_with fail
    go_quiet (fail)
    go_wp2_with fail
    go_ret
    exact ret_drew (by rw [HE.out]; rfl) B3.out ⟨_, rfl⟩
  · have h0' : 0 ≤ h := by omega
    have h12 := HLE.out
    have d0 : decide (0 ≤ h) = true := by simpa using h0'
    obtain ⟨n, hn, hnl'⟩ := heightAt_fn (show 0 ≤ heightAt p f.fn f.pc by rw [HH.out]; exact h0')
    rw [hn] at l0
    obtain ⟨ad, rfl, Ac, cc, hF⟩ := fnAt_of RP3.out (Below.refl _ _) hnl'
    have m1 := hF.c1
    have HE := Lib.hid (frameB_numbers (less := less) hn (List.getElem?_eq_getElem hnl') HH.out h0')
    have q1 : IntKind.i64.wrap (h - less) = h - less := IntWalk.i64_in _ (by omega)
    have HA := Lib.hid (numbers_any A1 c1 f.locals p[n].locals)
    have HS := Lib.hid (numbers_any A2 c2 f.stack (h - less))
    obtain ⟨x1, ex1⟩ : ∃ x1, numbersB f.locals p[n].locals = x1 := ⟨_, rfl⟩
    obtain ⟨x2, ex2⟩ : ∃ x2, numbersB f.stack (h - less) = x2 := ⟨_, rfl⟩
    rw [ex1] at HA HE
    rw [ex2] at HS HE
    clear ex1 ex2 hF hn h0
    cases x1
    all_goals
      go_wp2_with fail
      go_quiet ((go_at_call 69; with_reducible (first | exact Calls.quiet_of_same (HA.out _ (RL3.out.below (below_drew (Below.refl _ _) _))) | exact Calls.quiet_of_same (HS.out _ (RS3.out.below (below_drew (Below.refl _ _) _))))))
      go_wp2_with fail
      go_ret
      exact ret_drew (by rw [HE.out]; rfl) B3.out ⟨_, rfl⟩
theorem codeAt_len {p : List Fn} {n m : Nat} (hn : n < p.length) (h : 0 ≤ heightAt p n m) (hv : verifyOf p = 0) : m < p[n].code.length := by
  rcases Nat.lt_or_ge m p[n].code.length with h1 | h1
  · exact h1
  · rw [heightAt_far hv hn (by omega)] at h; exact absurd h (by decide)
set_option maxRecDepth 100000 in
set_option maxHeartbeats 4000000 in
theorem rbehind_any (p : List Fn) (Ap : Option Addr) (cp : Nat) (fn pc called : Int) (w : World) (hv : verifyOf p = 0) (hr : ReadsF w Ap p) (hpc : -1 ≤ pc ∧ pc ≤ 1000) :
    Calls Tryz.prog 93 #[.agg #[.slice Ap p.length cp], .int .i64 fn, .int .i64 pc, .int .i64 called] w (Ret (.bool (behindB p fn pc called)) w) := by
  obtain ⟨w1, hw1⟩ : ∃ w1, w.alloc (.cells #[.slice Ap p.length cp] 24) = w1 := ⟨_, rfl⟩
  have b1 : Below w.heap.size w w1 := hw1 ▸ below_alloc (Below.refl _ _) _
  have R1 := Lib.hid (hw1 ▸ RowAt.new _ _ w : RowAt 24 w.heap.size [.slice Ap p.length cp] w1)
  have B1 := Lib.hid b1
  have RP := Lib.hid (hr.below b1)
  have H := Lib.hid (height_any p Ap cp fn (pc - 1) w1 RP.out)
  have HV := Lib.hid hv
  obtain ⟨h, hh⟩ : ∃ h, heightAt p fn (pc - 1) = h := ⟨_, rfl⟩
  have HH := Lib.hid hh
  rw [hh] at H
  have k0 := R1.out.cell (k := 0) (by simp)
  simp only [List.getElem_cons_zero] at k0
  have hnp := hr.1
  clear hh b1 hr hv
  go_enter Tryz.func93, Tryz.ntmps93
  go_wp2_with fail
  (with_reducible refine H.out.mono ?_)
  rintro e w3 ⟨rfl, hB⟩
  have B3 := Lib.hid (below_trans B1.out hB)
  have RP3 := Lib.hid (RP.out.below hB)
  have k0 := (R1.out.below hB).cell (k := 0) (by simp)
  simp only [List.getElem_cons_zero] at k0
  clear H hB hw1
  by_cases h0 : h < 0
  · have HE := Lib.hid (show behindB p fn pc called = false by unfold behindB; rw [HH.out, decide_eq_false (by omega)]; rfl)
    have d0 : decide (h < 0) = true := by simpa using h0
    go_wp2_with fail
    go_ret
    exact ret_tail (by rw [HE.out]; rfl) B3.out (Below.refl _ _)
  · have h0' : 0 ≤ h := by omega
    have d0 : decide (h < 0) = false := by simpa using h0
    obtain ⟨n, rfl, hnl'⟩ := heightAt_fn (show 0 ≤ heightAt p fn (pc - 1) by rw [HH.out]; exact h0')
    have hp0 : 0 ≤ pc - 1 := by
      rcases Int.lt_or_le (pc - 1) 0 with h9 | h9
      · have := heightAt_neg (p := p) (fn := n) h9; rw [HH.out] at this; omega
      · exact h9
    obtain ⟨m, hm⟩ := Int.eq_ofNat_of_zero_le hp0
    have hml : m < p[n].code.length := codeAt_len hnl' (by rw [← hm, HH.out]; exact h0') HV.out
    obtain ⟨ad, rfl, Ac, cc, hF⟩ := fnAt_of RP3.out (Below.refl _ _) hnl'
    have m2 := hF.c2
    have hcl := hF.r.1
    obtain ⟨adc, eC, i0, i1⟩ := hF.r.at_ (Below.refl _ _) hml
    subst eC
    obtain rfl : pc = m + 1 := by omega
    have HE := Lib.hid (behind_yes (called := called) hm hnl' hml (by rw [← hm]; exact HH.out) h0')
    have hq := fun (W : World) => eql_of (fun d => eqrIns d W p[n].code[m] ⟨14, called⟩)
    have q1 : IntKind.i64.wrap ((m : Int) + 1 - 1) = m := by rw [show ((m : Int) + 1 - 1) = m by omega]; exact IntWalk.i64_in _ (by omega)
    clear hm hp0 hF h0
    go_wp2_with fail
    go_ret
    exact ret_tail (by rw [HE.out]; rfl) B3.out (Below.refl _ _)
end Go.Proofs.YtjghibdlmmjobaaGreatDoor
