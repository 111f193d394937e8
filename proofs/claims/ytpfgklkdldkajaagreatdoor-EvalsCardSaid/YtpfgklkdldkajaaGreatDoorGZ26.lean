/- Numbers: remainders, masks, 32 bits. Plain lemmas. EvalFuel: the walk. With more fuel what did not run out is the same; what did had a beginning of the trace. Condition: errors.errorType is laid. The document's 'Numbers', 'Height', 'frame', 'FrameMay', 'Behind' answer what the plain definitions say. Conditions: the program, the frame lie in memory as they are said. -/
import Derived.Test.YtpfgklkdldkajaaGreatDoorGZ15
import Derived.Test.YtpfgklkdldkajaaGreatDoorGZ25
namespace Go.Proofs.YtpfgklkdldkajaaGreatDoor
open Go.RowKit

theorem wrap64_in {n : Int} (h0 : -9223372036854775808 ≤ n) (h1 : n ≤ 9223372036854775807) : wrap64 n = n := by unfold wrap64; omega
theorem u64_rem (v : Int) (m : Nat) (h0 : 0 < m) (hm : m < 4294967296) : ∃ p : Nat, wrap64 ((IntKind.u64.wrap v).tmod m) = p ∧ p < m := by
  have h0' : IntKind.u64.wrap v = v % 18446744073709551616 := by rw [IntKind.wrap_u64]
  have h2 : 0 ≤ v % 18446744073709551616 := by omega
  have h3 : 0 ≤ v % 18446744073709551616 % (m : Int) := Int.emod_nonneg _ (by omega)
  have h4 : v % 18446744073709551616 % (m : Int) < m := Int.emod_lt_of_pos _ (by omega)
  refine ⟨((v % 18446744073709551616) % m).toNat, ?_, by omega⟩
  rw [h0', Int.tmod_eq_emod_of_nonneg h2, wrap64_in (by omega) (by omega)]
  omega
theorem i64_andq (n p : Int) (q : Nat) (hp : (BitVec.ofInt 64 p).toNat = 2 ^ q - 1) (hq : q < 60) : bits .and .i64 n p = n % 2 ^ q := by
  have key : (BitVec.ofInt 64 n &&& BitVec.ofInt 64 p).toNat = (n % ((2 ^ 64 : Nat) : Int)).toNat % 2 ^ q := by
    rw [BitVec.toNat_and, BitVec.toNat_ofInt, hp, Nat.and_two_pow_sub_one_eq_mod]
  have hd : (2 ^ 64 : Int) = 2 ^ q * 2 ^ (64 - q) := by rw [← Int.pow_add]; congr 1; omega
  have h2 : ((2 ^ q : Nat) : Int) = (2 : Int) ^ q := by simp
  have h0 : 0 ≤ n % ((2 ^ 64 : Nat) : Int) := Int.emod_nonneg _ (by decide)
  have e : (((n % ((2 ^ 64 : Nat) : Int)).toNat % 2 ^ q : Nat) : Int) = n % 2 ^ q := by
    rw [Int.natCast_emod, Int.toNat_of_nonneg h0, h2, Int.emod_emod_of_dvd n (show (2 : Int) ^ q ∣ ((2 ^ 64 : Nat) : Int) from ⟨2 ^ (64 - q), hd⟩)]
  have hb : n % 2 ^ q < 2 ^ q := Int.emod_lt_of_pos _ (Int.pow_pos (by decide))
  have hb0 : 0 ≤ n % (2 : Int) ^ q := Int.emod_nonneg _ (Int.pow_ne_zero (by decide))
  have hl : (2 : Int) ^ q ≤ 2 ^ 60 := by
    have := Nat.pow_le_pow_right (n := 2) (by decide) (show q ≤ 60 by omega)
    rw [← h2]; exact_mod_cast this
  show IntKind.i64.wrap ((BitVec.ofInt 64 n &&& BitVec.ofInt 64 p).toNat : Nat) = n % 2 ^ q
  rw [key, e, IntKind.wrap_i64]
  omega

theorem u64_remu (v : Int) (m : Nat) (h0 : 0 < m) : ∃ p : Nat, (IntKind.u64.wrap v).tmod m = p ∧ p < m := by
  have h0' : IntKind.u64.wrap v = v % 18446744073709551616 := by rw [IntKind.wrap_u64]
  have h2 : 0 ≤ v % 18446744073709551616 := by omega
  have h3 : 0 ≤ v % 18446744073709551616 % (m : Int) := Int.emod_nonneg _ (by omega)
  have h4 : v % 18446744073709551616 % (m : Int) < m := Int.emod_lt_of_pos _ (by omega)
  refine ⟨((v % 18446744073709551616) % m).toNat, ?_, by omega⟩
  rw [h0', Int.tmod_eq_emod_of_nonneg h2]
  omega
theorem num_32 (v : Int) : ∃ n : Int, wrap64 (wrap32 (IntKind.u64.wrap v % 4294967296)) = n ∧ isNum n = true := ⟨_, rfl, num_yes.2 (by unfold wrap64 wrap32; omega)⟩
theorem i64_m15 (n : Int) : bits .and .i64 n 15 = n % 16 := i64_andq n 15 4 (by decide) (by decide)
theorem i64_m1023 (n : Int) : bits .and .i64 n 1023 = n % 1024 := i64_andq n 1023 10 (by decide) (by decide)
theorem i64_m4095 (n : Int) : bits .and .i64 n 4095 = n % 4096 := i64_andq n 4095 12 (by decide) (by decide)
theorem i64_m31 (n : Int) : bits .and .i64 n 31 = n % 32 := i64_andq n 31 5 (by decide) (by decide)
theorem i64_m3 (n : Int) : bits .and .i64 n 3 = n % 4 := i64_andq n 3 2 (by decide) (by decide)
end Go.Proofs.YtpfgklkdldkajaaGreatDoor

namespace Go.Proofs.YtpfgklkdldkajaaGreatDoor
open Go.RowKit

/-- A call that answers a result, how long its trace is, and a code; the trace lies behind all that was there. -/
def EvalM (r : Rst) (n : Nat) (code : Int) (w : World) (e : Ending) (w' : World) : Prop :=
  ∃ A c, e = .returned (.tuple #[.agg #[.int .i64 r.done, .int .i64 r.value, .slice A n c, .int .i64 r.fuel], .int .i64 code]) ∧ n ≤ c ∧ ReadsI w' A r.out ∧ Below w.heap.size w w' ∧ (0 < n → ∀ a, A = some a → w.heap.size ≤ a.block)
theorem eval_m {p : List Fn} {np cp c na n : Nat} {Ap A : Option Addr} {args : List Int} {fuel code : Int} {w : World} {r : Rst} (hl : Laid w) (hr : ReadsF w Ap p) (ha : ReadsI w A args) (e : p.length = np) (ea : args.length = na) (h1 : evalR p args fuel = r) (h2 : evalC p args fuel = code) (h3 : r.out.length = n) :
    Calls Tryz.prog 36 #[.agg #[.slice Ap np cp], .slice A na c, .int .i64 fuel] w (EvalM r n code w) := by
  subst e ea h1 h2
  refine (eval_any p Ap A cp c args fuel w hl hr ha).mono fun e w' h => ?_
  obtain ⟨ov, rfl, hr, hb⟩ := h
  obtain ⟨A, c, rfl, hc, _⟩ := hr.shape
  subst h3
  refine ⟨A, c, rfl, hc, CRow.ints hr, hb, fun hn a ea => ?_⟩
  obtain ⟨_, _, e, _, _, _, _, hlo, _⟩ := hr.own hn
  injection e with e1 e2 e3
  exact (hlo a (e1 ▸ ea)).1
theorem reads_apart {w w1 : World} {A : Option Addr} {xs : List Int} {b : Nat} (h : ReadsI w A xs) (hk : Chg (fun x => x = b) w w1) (hn : 0 < xs.length → ∀ a, A = some a → b < a.block) : ReadsI w1 A xs := by
  rcases Nat.eq_zero_or_pos xs.length with h0 | h0
  · exact ⟨h.1, fun h1 => by omega⟩
  · exact h.chg hk (fun a e e2 => by have := hn h0 a e; omega)
theorem fuel_start {p : List Fn} {args : List Int} {k m : Int} (hk : 0 ≤ k ∧ k ≤ 1023) (hm : 0 ≤ m ∧ m ≤ 1023) : startB p args (k + m) = startB p args k := by
  unfold startB
  rw [decide_eq_true (show 0 ≤ k by omega), decide_eq_true (show k ≤ 100000 by omega), decide_eq_true (show 0 ≤ k + m by omega), decide_eq_true (show k + m ≤ 100000 by omega)]
/-- The plain law. -/
theorem fuel_law {p : List Fn} {args : List Int} {k m : Int} (hk : 0 ≤ k ∧ k ≤ 1023) (hm : 0 ≤ m ∧ m ≤ 1023) :
    (evalC p args k = 800 ∧ evalC p args (k + m) = 800) ∨ (evalC p args k = 0 ∧ evalC p args (k + m) = 0 ∧ 0 ≤ (evalR p args k).fuel ∧ (evalR p args k).fuel ≤ 100000 ∧
      (((evalR p args k).done = 4 ∧ (evalR p args k).fuel = 0 ∧ beginsB (evalR p args k).out (evalR p args (k + m)).out = true) ∨
       ((evalR p args k).done ≠ 4 ∧ evalR p args (k + m) = ⟨(evalR p args k).done, (evalR p args k).value, (evalR p args k).out, (evalR p args k).fuel + m⟩))) := by
  have hs := fuel_start (p := p) (args := args) hk hm
  cases hb : startB p args k with
  | false =>
    rw [hb] at hs
    exact .inl ⟨(evalN hb).2.1, (evalN hs).2.1⟩
  | true =>
    rw [hb] at hs
    obtain ⟨e1, c1, _⟩ := evalY hb
    obtain ⟨e2, c2, _⟩ := evalY hs
    have es : startS p args k = ⟨[⟨0, 0, beginL args (localsAt p 0).toNat, []⟩], k, [], 0, 0⟩ := by unfold startS; rw [if_pos hb]
    have es2 : startS p args (k + m) = moreS m (startS p args k) := by rw [es]; unfold startS; rw [if_pos hs]; rfl
    have hst := start_state hb
    obtain ⟨he, _⟩ := end_state _ _ rfl hst
    have hfu : 0 ≤ (endS p (startS p args k)).fuel ∧ (endS p (startS p args k)).fuel ≤ 100000 := by
      unfold stateB at he
      simp only [Bool.and_eq_true, decide_eq_true_eq] at he
      exact ⟨he.1.1.1.1.2, he.1.1.1.2⟩
    have hmo := endS_more (p := p) hm.1 _ (startS p args k) (by rw [es]; exact hk.1) rfl (by rw [es])
    refine .inr ⟨c1, c2, by rw [e1]; exact hfu.1, by rw [e1]; exact hfu.2, ?_⟩
    rw [e1, e2, es2]
    by_cases hd : (endS p (startS p args k)).done = 4
    · obtain ⟨h1, o, h2⟩ := hmo.2 hd
      refine .inl ⟨hd, h1, ?_⟩
      show beginsB (endS p (startS p args k)).out (endS p (moreS m (startS p args k))).out = true
      rw [h2]
      unfold beginsB
      simp
    · refine .inr ⟨hd, ?_⟩
      rw [hmo.1 hd]; rfl
end Go.Proofs.YtpfgklkdldkajaaGreatDoor

namespace Go.Proofs.YtpfgklkdldkajaaGreatDoor
open Go.RowKit

def numbersB (xs : List Int) (k : Int) : Bool := xs.all isNum && decide ((xs.length : Int) = k)
set_option maxHeartbeats 1000000 in
theorem numbers_any (A : Option Addr) (c : Nat) (xs : List Int) (k : Int) (w : World) (hr : ReadsI w A xs) :
    Calls Tryz.prog 50 #[.slice A xs.length c, .int .i64 k] w fun e w' => e = .returned (.bool (numbersB xs k)) ∧ w' = w := by
  have HR := Lib.hid hr
  have hn : xs.length ≤ 9223372036854775807 := hr.1
  clear hr
  go_enter Tryz.func50, Tryz.ntmps50
  go_wp2_with fail
  go_loop [5] (fun i => ∃ j : Nat, j ≤ xs.length ∧ i = .int .i64 j ∧ (∀ i (hj : i < xs.length), i < j → isNum xs[i] = true)) (fun i => xs.length - (intOf i).toNat)
  case atStart => exact ⟨0, Nat.zero_le _, rfl, fun _ _ h => absurd h (Nat.not_lt_zero _)⟩
  case round =>
    obtain ⟨j, hj, rfl, hv⟩ := hrel
    have HV := Lib.hid hv
    clear hv
    by_cases hlt : j < xs.length
    · obtain ⟨ad, rfl, hc⟩ := HR.out.at_ hlt
      have HI := Lib.hid (number_any xs[j])
      obtain ⟨x, hx⟩ : ∃ x, isNum xs[j] = x := ⟨_, rfl⟩
      rw [hx] at HI
      have HX := Lib.hid hx
      clear hx
      cases x with
      | true =>
        go_wp2_with (go_at_call 57; refine (HI.out _).mono ?_; rintro e w' ⟨rfl, rfl⟩)
        go_round
        case rel => exact ⟨j + 1, by omega, by go_num, upto_succ HV.out hlt HX.out⟩
        case measure => simp only [intOf]; omega
      | false =>
        go_wp2_with (go_at_call 57; refine (HI.out _).mono ?_; rintro e w' ⟨rfl, rfl⟩)
        go_ret
        exact ⟨ret_bool (by unfold numbersB; rw [all_not hlt HX.out]; rfl), rfl⟩
    · have HE := Lib.hid (show numbersB xs k = decide ((xs.length : Int) = k) by unfold numbersB; rw [all_upto (by omega) HV.out]; rfl)
      go_wp2_with fail
      all_goals go_ret
      all_goals exact ⟨ret_bool (by rw [HE.out]; first | rfl | exact beq_dec _ _ | simp_all), rfl⟩
theorem HeightsE.readsL {r : List Int × Int × Int} {w w' : World} {e : Ending} (h : HeightsE r w e w') : ∃ A c, e = .returned (.tuple #[.slice A r.1.length c, .int .i64 r.2.1, .int .i64 r.2.2]) ∧ ReadsI w' A r.1 ∧ Below w.heap.size w w' := by
  obtain ⟨v, rfl, h1, h2⟩ := h
  obtain ⟨A, c, rfl, _, _⟩ := h1.shape
  exact ⟨A, c, rfl, h1.ints.2, h2⟩
set_option maxRecDepth 100000 in
set_option maxHeartbeats 2000000 in
theorem height_any (p : List Fn) (Ap : Option Addr) (cp : Nat) (fn pc : Int) (w : World) (hr : ReadsF w Ap p) :
    Calls Tryz.prog 116 #[.agg #[.slice Ap p.length cp], .int .i64 fn, .int .i64 pc] w (Ret (.int .i64 (heightAt p fn pc)) w) := by
  obtain ⟨w1, hw1⟩ : ∃ w1, w.alloc (.cells #[.slice Ap p.length cp] 24) = w1 := ⟨_, rfl⟩
  have b1 : Below w.heap.size w w1 := hw1 ▸ below_alloc (Below.refl _ _) _
  have p1 : w1.cell? ⟨w.heap.size, 0, none⟩ = some (.slice Ap p.length cp) := hw1 ▸ (blk_cell (blk_new w _) 0).trans rfl
  have H := Lib.hid (rheights_any p Ap cp fn w1 (hr.below b1))
  have B1 := Lib.hid b1
  have HH := Lib.hid (show heightAt p fn pc = if (heightsOf p fn).2.2 = 0 ∧ 0 ≤ pc then ((heightsOf p fn).1[pc.toNat]?).getD (-1) else -1 from rfl)
  obtain ⟨r, hr'⟩ : ∃ r, heightsOf p fn = r := ⟨_, rfl⟩
  rw [hr'] at H HH
  obtain ⟨hs, pc0, e0⟩ := r
  clear b1 hr hr'
  go_enter Tryz.func116, Tryz.ntmps116
  go_wp2_with fail
  (with_reducible refine H.out.mono ?_)
  rintro e w2 hE
  obtain ⟨A, c, rfl, hrd, hB⟩ := hE.readsL
  have B2 := Lib.hid (below_trans B1.out hB)
  have HRD := Lib.hid hrd
  have hn : hs.length ≤ 9223372036854775807 := hrd.1
  clear hE hrd hB hw1 H
  by_cases h0 : e0 = 0
  case neg =>
    have d0 : (e0 != 0) = true := by simpa using h0
    have HE := Lib.hid h0
    clear h0
    go_wp2_with fail
    go_ret
    exact ⟨ret_int (by rw [HH.out, if_neg (fun h => HE.out h.1)]), B2.out⟩
  subst h0
  by_cases h1 : pc < 0
  · have d1 : decide (pc < 0) = true := by simpa using h1
    go_wp2_with fail
    go_ret
    exact ⟨ret_int (by rw [HH.out, if_neg (fun h => by omega)]), B2.out⟩
  obtain ⟨m, rfl⟩ := Int.eq_ofNat_of_zero_le (Int.not_lt.1 h1)
  by_cases h2 : hs.length ≤ m
  · have d2 : decide (hs.length ≤ m) = true := by simpa using h2
    go_wp2_with fail
    go_ret
    exact ⟨ret_int (by rw [HH.out, if_pos ⟨trivial, by omega⟩, Int.toNat_natCast, List.getElem?_eq_none h2]; rfl), B2.out⟩
  · have hm : m < hs.length := by omega
    have d2 : decide (hs.length ≤ m) = false := by simpa using hm
    obtain ⟨ad, rfl, hc⟩ := HRD.out.at_ hm
    go_wp2_with fail
    go_ret
    exact ⟨ret_int (by rw [HH.out, if_pos ⟨trivial, by omega⟩, Int.toNat_natCast, List.getElem?_eq_getElem hm]; rfl), B2.out⟩
theorem heightAt_fn {p : List Fn} {fn pc : Int} (h : 0 ≤ heightAt p fn pc) : ∃ n : Nat, fn = n ∧ n < p.length := by
  by_cases h1 : 0 ≤ fn ∧ fn < p.length
  · obtain ⟨n, hn⟩ := Int.eq_ofNat_of_zero_le h1.1
    exact ⟨n, hn, by omega⟩
  · rw [heightAt_no h1] at h; exact absurd h (by decide)
end Go.Proofs.YtpfgklkdldkajaaGreatDoor
