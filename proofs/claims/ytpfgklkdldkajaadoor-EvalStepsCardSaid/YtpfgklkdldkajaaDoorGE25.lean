/- 'awake' of the statements on eval. Condition: errors.errorType is laid. Numbers: remainders, masks, 32 bits. Plain lemmas. EvalFuel: the walk. With more fuel what did not run out is the same; what did had a beginning of the trace. Condition: errors.errorType is laid. -/
import Derived.Test.YtpfgklkdldkajaaDoorGE24
import Derived.Test.YtpfgklkdldkajaaDoorGE15
namespace Go.Proofs.YtpfgklkdldkajaaDoor
open Go.RowKit

/-- A call that answers a result, how long its trace is, and a code. -/
def EvalN (r : Rst) (n : Nat) (code : Int) (w : World) (e : Ending) (w' : World) : Prop :=
  ∃ A c, e = .returned (.tuple #[.agg #[.int .i64 r.done, .int .i64 r.value, .slice A n c, .int .i64 r.fuel], .int .i64 code]) ∧ n ≤ c ∧ ReadsI w' A r.out ∧ Below w.heap.size w w'
theorem EvalE.n {r : Rst} {code : Int} {w : World} {e : Ending} {w' : World} {n : Nat} (h : EvalE r code w e w') (hn : r.out.length = n) : EvalN r n code w e w' := by
  obtain ⟨ov, rfl, hr, hb⟩ := h
  obtain ⟨A, c, rfl, hc, _⟩ := hr.shape
  subst hn
  exact ⟨A, c, rfl, hc, CRow.ints hr, hb⟩
theorem eval_n {p : List Fn} {np cp c na n : Nat} {Ap A : Option Addr} {args : List Int} {fuel code : Int} {w : World} {r : Rst} (hl : Laid w) (hr : ReadsF w Ap p) (ha : ReadsI w A args) (e : p.length = np) (ea : args.length = na) (h1 : evalR p args fuel = r) (h2 : evalC p args fuel = code) (h3 : r.out.length = n) :
    Calls Tryd.prog 26 #[.agg #[.slice Ap np cp], .slice A na c, .int .i64 fuel] w (EvalN r n code w) := by
  subst e ea h1 h2
  exact (eval_any p Ap A cp c args fuel w hl hr ha).mono fun e w' h => h.n h3
theorem go_n {p : List Fn} {np cp : Nat} {Ap : Option Addr} {w : World} (hl : Laid w) (hr : ReadsF w Ap p) (e : p.length = np) (hn : stateB p ⟨[], 0, [], 0, 0⟩ = false) :
    Calls Tryd.prog 33 #[.agg #[.slice Ap np cp], .agg #[.slice none 0 0, .int .i64 0, .slice none 0 0, .int .i64 0, .int .i64 0]] w (EvalN zeroR 0 800 w) := by
  subst e
  exact (go_no p Ap cp w hl hr hn).mono fun e w' h => h.n rfl
theorem same_n {x y : Rst} {A B : Option Addr} {c d n m : Nat} {w : World} {b : Bool} (hx : ReadsI w A x.out) (hy : ReadsI w B y.out) (e1 : x.out.length = n) (e2 : y.out.length = m) (hb : decide (x = y) = b) :
    Calls Tryd.prog 28 #[.agg #[.int .i64 x.done, .int .i64 x.value, .slice A n c, .int .i64 x.fuel], .agg #[.int .i64 y.done, .int .i64 y.value, .slice B m d, .int .i64 y.fuel]] w (Ret (.bool b) w) := by
  subst e1 e2 hb
  exact sameResult_any x y A B c d w hx hy
theorem ar1 : evalR twoP [5] 99 = ⟨1, 7, [7], 89⟩ := by kernel_rfl
theorem ac1 : evalC twoP [5] 99 = 0 := by kernel_rfl
theorem ar2 : evalR twoP [5] 3 = ⟨4, 0, [], 0⟩ := by kernel_rfl
theorem ac2 : evalC twoP [5] 3 = 0 := by kernel_rfl
theorem ar3 : evalR twoP [] 3 = ⟨0, 0, [], 0⟩ := by kernel_rfl
theorem ac3 : evalC twoP [] 3 = 800 := by kernel_rfl
theorem ab4 : stateB twoP ⟨[], 0, [], 0, 0⟩ = false := by kernel_rfl
theorem ints_new {w : World} {xs : List Int} (h : xs.length ≤ 1000) : ReadsI (w.alloc (.cells (intsV xs).toArray 3)) (some ⟨w.heap.size, 0, none⟩) xs := intsL (RowAt.new _ _ w) h
set_option maxRecDepth 100000 in
set_option maxHeartbeats 8000000 in
theorem awake8_any (w : World) (hl : Laid w) : Calls Tryd.prog 25 #[] w (Ret (.bool true) w) := by
  have HL := Lib.hid hl
  have HT := Lib.hid (two_any w)
  clear hl
  go_enter Tryd.func25, Tryd.ntmps25
  go_wp2_with fail
  (with_reducible refine HT.out.mono ?_)
  rintro e w1 ⟨g, rfl, hr1, hB1⟩
  obtain ⟨w2, hw2⟩ : ∃ w2, w1.alloc (.cells #[.slice (some ⟨g, 0, none⟩) 2 2] 24) = w2 := ⟨_, rfl⟩
  have b2 : Below w1.heap.size w1 w2 := hw2 ▸ below_alloc (Below.refl _ _) _
  have P := Lib.hid (hw2 ▸ RowAt.new _ _ w1 : RowAt 24 w1.heap.size [.slice (some ⟨g, 0, none⟩) 2 2] w2)
  have RF := Lib.hid (hr1.below b2)
  have BB := Lib.hid (below_trans hB1 b2)
  clear hr1 hB1 b2
  have k0 := row_cell P.out
  obtain ⟨w3, hw3⟩ : ∃ w3, w2.alloc (.cells #[.int .i64 5] 3) = w3 := ⟨_, rfl⟩
  have b3 : Below w2.heap.size w2 w3 := hw3 ▸ below_alloc (Below.refl _ _) _
  have N3 := Lib.hid (show ReadsI w3 (some ⟨w2.heap.size, 0, none⟩) [5] from hw3 ▸ ints_new (w := w2) (by simp))
  replace P := Lib.hid (P.out.below b3)
  replace RF := Lib.hid (RF.out.below b3)
  replace BB := Lib.hid (below_trans BB.out b3)
  have kk0 := row_cell P.out
  have H0 := Lib.hid (eval_n (fuel := 99) (cp := 2) (c := 1) (A := (some ⟨w2.heap.size, 0, none⟩)) (HL.out.below BB.out) RF.out N3.out twoP_len (len1 _) ar1 ac1 (len1 _))
  go_wp2_with fail
  (with_reducible refine H0.out.mono ?_)
  rintro e w4 ⟨A4, c4, rfl, hc4, hR4, hB4⟩
  replace P := Lib.hid (P.out.below hB4)
  replace N3 := Lib.hid (N3.out.below hB4)
  replace RF := Lib.hid (RF.out.below hB4)
  replace BB := Lib.hid (below_trans BB.out hB4)
  have RR0 := Lib.hid hR4
  clear hR4 hB4 hc4 k0 kk0
  simp only []
  obtain ⟨w5, hw5⟩ : ∃ w5, w4.alloc (.cells #[.int .i64 1, .int .i64 7, .slice A4 1 c4, .int .i64 89] 61) = w5 := ⟨_, rfl⟩
  have b5 : Below w4.heap.size w4 w5 := hw5 ▸ below_alloc (Below.refl _ _) _
  have N5 := Lib.hid (hw5 ▸ RowAt.new _ _ w4 : RowAt 61 w4.heap.size [.int .i64 1, .int .i64 7, .slice A4 1 c4, .int .i64 89] w5)
  replace P := Lib.hid (P.out.below b5)
  replace N3 := Lib.hid (N3.out.below b5)
  replace RR0 := Lib.hid (RR0.out.below b5)
  replace RF := Lib.hid (RF.out.below b5)
  replace BB := Lib.hid (below_trans BB.out b5)
  have k1 := row_cell P.out
  obtain ⟨w6, hw6⟩ : ∃ w6, w5.alloc (.cells #[.int .i64 5] 3) = w6 := ⟨_, rfl⟩
  have b6 : Below w5.heap.size w5 w6 := hw6 ▸ below_alloc (Below.refl _ _) _
  have N6 := Lib.hid (show ReadsI w6 (some ⟨w5.heap.size, 0, none⟩) [5] from hw6 ▸ ints_new (w := w5) (by simp))
  replace P := Lib.hid (P.out.below b6)
  replace N5 := Lib.hid (N5.out.below b6)
  replace N3 := Lib.hid (N3.out.below b6)
  replace RR0 := Lib.hid (RR0.out.below b6)
  replace RF := Lib.hid (RF.out.below b6)
  replace BB := Lib.hid (below_trans BB.out b6)
  have kk1 := row_cell P.out
  have H1 := Lib.hid (eval_n (fuel := 3) (cp := 2) (c := 1) (A := (some ⟨w5.heap.size, 0, none⟩)) (HL.out.below BB.out) RF.out N6.out twoP_len (len1 _) ar2 ac2 len0)
  go_wp2_with fail
  (with_reducible refine H1.out.mono ?_)
  rintro e w7 ⟨A7, c7, rfl, hc7, hR7, hB7⟩
  replace P := Lib.hid (P.out.below hB7)
  replace N5 := Lib.hid (N5.out.below hB7)
  replace N3 := Lib.hid (N3.out.below hB7)
  replace RR0 := Lib.hid (RR0.out.below hB7)
  replace N6 := Lib.hid (N6.out.below hB7)
  replace RF := Lib.hid (RF.out.below hB7)
  replace BB := Lib.hid (below_trans BB.out hB7)
  have RR1 := Lib.hid hR7
  clear hR7 hB7 hc7 k1 kk1
  simp only []
  have b8 : Below w7.heap.size w7 (w7.alloc (.cells #[.int .i64 4, .int .i64 0, .slice A7 0 c7, .int .i64 0] 61)) := below_alloc (Below.refl _ _) _
  have N8 := Lib.hid (RowAt.new _ _ w7 : RowAt 61 w7.heap.size [.int .i64 4, .int .i64 0, .slice A7 0 c7, .int .i64 0] (w7.alloc (.cells #[.int .i64 4, .int .i64 0, .slice A7 0 c7, .int .i64 0] 61)))
  replace P := Lib.hid (P.out.below b8)
  replace N5 := Lib.hid (N5.out.below b8)
  replace N3 := Lib.hid (N3.out.below b8)
  replace RR0 := Lib.hid (RR0.out.below b8)
  replace N6 := Lib.hid (N6.out.below b8)
  replace RR1 := Lib.hid (RR1.out.below b8)
  replace RF := Lib.hid (RF.out.below b8)
  replace BB := Lib.hid (below_trans BB.out b8)
  clear b8
  have k2 := row_cell P.out
  have H2 := Lib.hid (eval_n (fuel := 3) (cp := 2) (c := 0) (A := none) (HL.out.below BB.out) RF.out ⟨by simp, fun h => absurd h (by simp)⟩ twoP_len len0 ar3 ac3 len0)
  go_wp2_with fail
  (with_reducible refine H2.out.mono ?_)
  rintro e w9 ⟨A9, c9, rfl, hc9, hR9, hB9⟩
  replace P := Lib.hid (P.out.below hB9)
  replace N5 := Lib.hid (N5.out.below hB9)
  replace N8 := Lib.hid (N8.out.below hB9)
  replace N3 := Lib.hid (N3.out.below hB9)
  replace RR0 := Lib.hid (RR0.out.below hB9)
  replace N6 := Lib.hid (N6.out.below hB9)
  replace RR1 := Lib.hid (RR1.out.below hB9)
  replace RF := Lib.hid (RF.out.below hB9)
  replace BB := Lib.hid (below_trans BB.out hB9)
  clear hR9 hB9 hc9 k2
  simp only []
  have b10 : Below w9.heap.size w9 (w9.alloc (.cells #[.int .i64 0, .int .i64 0, .slice A9 0 c9, .int .i64 0] 61)) := below_alloc (Below.refl _ _) _
  have N10 := Lib.hid (RowAt.new _ _ w9 : RowAt 61 w9.heap.size [.int .i64 0, .int .i64 0, .slice A9 0 c9, .int .i64 0] (w9.alloc (.cells #[.int .i64 0, .int .i64 0, .slice A9 0 c9, .int .i64 0] 61)))
  replace P := Lib.hid (P.out.below b10)
  replace N5 := Lib.hid (N5.out.below b10)
  replace N8 := Lib.hid (N8.out.below b10)
  replace N3 := Lib.hid (N3.out.below b10)
  replace RR0 := Lib.hid (RR0.out.below b10)
  replace N6 := Lib.hid (N6.out.below b10)
  replace RR1 := Lib.hid (RR1.out.below b10)
  replace RF := Lib.hid (RF.out.below b10)
  replace BB := Lib.hid (below_trans BB.out b10)
  clear b10
  have kg := row_cell P.out
  have HG := Lib.hid (go_n (cp := 2) (HL.out.below BB.out) RF.out twoP_len ab4)
  go_wp2_with fail
  (with_reducible refine HG.out.mono ?_)
  rintro e w11 ⟨A11, c11, rfl, hc11, hR11, hB11⟩
  replace P := Lib.hid (P.out.below hB11)
  replace N5 := Lib.hid (N5.out.below hB11)
  replace N8 := Lib.hid (N8.out.below hB11)
  replace N10 := Lib.hid (N10.out.below hB11)
  replace N3 := Lib.hid (N3.out.below hB11)
  replace RR0 := Lib.hid (RR0.out.below hB11)
  replace N6 := Lib.hid (N6.out.below hB11)
  replace RR1 := Lib.hid (RR1.out.below hB11)
  replace RF := Lib.hid (RF.out.below hB11)
  replace BB := Lib.hid (below_trans BB.out hB11)
  clear hR11 hB11 hc11 kg
  simp only [zeroR]
  have b12 : Below w11.heap.size w11 (w11.alloc (.cells #[.int .i64 0, .int .i64 0, .slice A11 0 c11, .int .i64 0] 61)) := below_alloc (Below.refl _ _) _
  have N12 := Lib.hid (RowAt.new _ _ w11 : RowAt 61 w11.heap.size [.int .i64 0, .int .i64 0, .slice A11 0 c11, .int .i64 0] (w11.alloc (.cells #[.int .i64 0, .int .i64 0, .slice A11 0 c11, .int .i64 0] 61)))
  replace P := Lib.hid (P.out.below b12)
  replace N5 := Lib.hid (N5.out.below b12)
  replace N8 := Lib.hid (N8.out.below b12)
  replace N10 := Lib.hid (N10.out.below b12)
  replace N3 := Lib.hid (N3.out.below b12)
  replace RR0 := Lib.hid (RR0.out.below b12)
  replace N6 := Lib.hid (N6.out.below b12)
  replace RR1 := Lib.hid (RR1.out.below b12)
  replace RF := Lib.hid (RF.out.below b12)
  replace BB := Lib.hid (below_trans BB.out b12)
  clear b12
  have a0 := N5.out.cell (k := 0) (by simp)
  have a1 := N5.out.cell (k := 1) (by simp)
  have a2 := N5.out.cell (k := 2) (by simp)
  have a3 := N5.out.cell (k := 3) (by simp)
  have b0 := N8.out.cell (k := 0) (by simp)
  have b1 := N8.out.cell (k := 1) (by simp)
  have b2 := N8.out.cell (k := 2) (by simp)
  have b3 := N8.out.cell (k := 3) (by simp)
  simp only [List.getElem_cons_zero, List.getElem_cons_succ] at a0 a1 a2 a3 b0 b1 b2 b3
  obtain ⟨w13, hw13⟩ : ∃ w13, (w11.alloc (.cells #[.int .i64 0, .int .i64 0, .slice A11 0 c11, .int .i64 0] 61)).alloc (.cells #[.int .i64 7] 3) = w13 := ⟨_, rfl⟩
  have b13 : Below (w11.alloc (.cells #[.int .i64 0, .int .i64 0, .slice A11 0 c11, .int .i64 0] 61)).heap.size (w11.alloc (.cells #[.int .i64 0, .int .i64 0, .slice A11 0 c11, .int .i64 0] 61)) w13 := hw13 ▸ below_alloc (Below.refl _ _) _
  have N13 := Lib.hid (show ReadsI w13 (some ⟨(w11.alloc (.cells #[.int .i64 0, .int .i64 0, .slice A11 0 c11, .int .i64 0] 61)).heap.size, 0, none⟩) [7] from hw13 ▸ ints_new (w := (w11.alloc (.cells #[.int .i64 0, .int .i64 0, .slice A11 0 c11, .int .i64 0] 61))) (by simp))
  replace P := Lib.hid (P.out.below b13)
  replace N5 := Lib.hid (N5.out.below b13)
  replace N8 := Lib.hid (N8.out.below b13)
  replace N10 := Lib.hid (N10.out.below b13)
  replace N12 := Lib.hid (N12.out.below b13)
  replace N3 := Lib.hid (N3.out.below b13)
  replace RR0 := Lib.hid (RR0.out.below b13)
  replace N6 := Lib.hid (N6.out.below b13)
  replace RR1 := Lib.hid (RR1.out.below b13)
  replace RF := Lib.hid (RF.out.below b13)
  replace BB := Lib.hid (below_trans BB.out b13)
  have d0 := N8.out.cell (k := 0) (by simp)
  have d1 := N8.out.cell (k := 1) (by simp)
  have d2 := N8.out.cell (k := 2) (by simp)
  have d3 := N8.out.cell (k := 3) (by simp)
  simp only [List.getElem_cons_zero, List.getElem_cons_succ] at d0 d1 d2 d3
  have N7 : ReadsI w13 (some ⟨w11.heap.size + 1, 0, none⟩) [7] := by
    have h := N13.out
    rwa [show ((w11.alloc (.cells #[.int .i64 0, .int .i64 0, .slice A11 0 c11, .int .i64 0] 61))).heap.size = w11.heap.size + 1 by simp] at h
  have HS1 := Lib.hid (same_n (x := ⟨1, 7, [7], 89⟩) (y := ⟨1, 7, [7], 89⟩) (c := c4) (d := 1) (b := true) RR0.out N7 (len1 _) (len1 _) (by decide))
  have HNUM := Lib.hid (fun (n : Int) (W : World) => numL_any n W)
  go_wp2_with (first | (go_at_call 15; (with_reducible refine (HNUM.out _ _).mono ?_); rintro e wn ⟨rfl, rfl⟩) | (go_at_call 28; (with_reducible refine HS1.out.mono ?_); rintro e wa ⟨rfl, hBa⟩; have HBA := Lib.hid hBa; have e0 := cell_below hBa d0; have e1 := cell_below hBa d1; have e2 := cell_below hBa d2; have e3 := cell_below hBa d3; have HS2 := Lib.hid (same_n (x := ⟨4, 0, [], 0⟩) (y := ⟨4, 0, [], 0⟩) (c := c7) (d := 0) (A := A7) (B := none) (n := 0) (m := 0) (b := true) (w := wa) ⟨by simp, fun h => absurd h (by simp)⟩ ⟨by simp, fun h => absurd h (by simp)⟩ rfl rfl (by decide)); clear hBa HS1) | (go_at_call 28; (with_reducible refine HS2.out.mono ?_); rintro e wb ⟨rfl, hBb⟩; have HBB := Lib.hid hBb; clear hBb HS2) | fail)
  go_ret
  exact ⟨rfl, below_trans BB.out (below_trans HBA.out HBB.out)⟩
end Go.Proofs.YtpfgklkdldkajaaDoor

namespace Go.Proofs.YtpfgklkdldkajaaDoor
open Go.RowKit

theorem wrap64_in {n : Int} (h0 : -9223372036854775808 ≤ n) (h1 : n ≤ 9223372036854775807) : wrap64 n = n := by unfold wrap64; omega
theorem u64_rem (v : Int) (m : Nat) (h0 : 0 < m) (hm : m < 4294967296) : ∃ p : Nat, wrap64 ((IntKind.u64.wrap v).tmod m) = p ∧ p < m := by
  have h0' : IntKind.u64.wrap v = v % 18446744073709551616 := by rw [IntKind.wrap_u64]
  have h2 : 0 ≤ v % 18446744073709551616 := by omega
  have h3 : 0 ≤ v % 18446744073709551616 % (m : Int) := Int.emod_nonneg _ (by omega)
  have h4 : v % 18446744073709551616 % (m : Int) < m := Int.emod_lt_of_pos _ (by omega)
  refine ⟨((v % 18446744073709551616) % m).toNat, ?_, by omega⟩
  rw [h0', Int.tmod_eq_emod_of_nonneg h2, wrap64_in (by omega) (by omega)]
  omega
theorem i64_andq (n p : Int) (q : Nat) (hp : (BitVec.ofInt 64 p).toNat = 2 ^ q - 1) (hq : q < 60) : bits .and .i64 n p = n % 2 ^ q := by
  have key : (BitVec.ofInt 64 n &&& BitVec.ofInt 64 p).toNat = (n % ((2 ^ 64 : Nat) : Int)).toNat % 2 ^ q := by
    rw [BitVec.toNat_and, BitVec.toNat_ofInt, hp, Nat.and_two_pow_sub_one_eq_mod]
  have hd : (2 ^ 64 : Int) = 2 ^ q * 2 ^ (64 - q) := by rw [← Int.pow_add]; congr 1; omega
  have h2 : ((2 ^ q : Nat) : Int) = (2 : Int) ^ q := by simp
  have h0 : 0 ≤ n % ((2 ^ 64 : Nat) : Int) := Int.emod_nonneg _ (by decide)
  have e : (((n % ((2 ^ 64 : Nat) : Int)).toNat % 2 ^ q : Nat) : Int) = n % 2 ^ q := by
    rw [Int.natCast_emod, Int.toNat_of_nonneg h0, h2, Int.emod_emod_of_dvd n (show (2 : Int) ^ q ∣ ((2 ^ 64 : Nat) : Int) from ⟨2 ^ (64 - q), hd⟩)]
  have hb : n % 2 ^ q < 2 ^ q := Int.emod_lt_of_pos _ (Int.pow_pos (by decide))
  have hb0 : 0 ≤ n % (2 : Int) ^ q := Int.emod_nonneg _ (Int.pow_ne_zero (by decide))
  have hl : (2 : Int) ^ q ≤ 2 ^ 60 := by
    have := Nat.pow_le_pow_right (n := 2) (by decide) (show q ≤ 60 by omega)
    rw [← h2]; exact_mod_cast this
  show IntKind.i64.wrap ((BitVec.ofInt 64 n &&& BitVec.ofInt 64 p).toNat : Nat) = n % 2 ^ q
  rw [key, e, IntKind.wrap_i64]
  omega

theorem u64_remu (v : Int) (m : Nat) (h0 : 0 < m) : ∃ p : Nat, (IntKind.u64.wrap v).tmod m = p ∧ p < m := by
  have h0' : IntKind.u64.wrap v = v % 18446744073709551616 := by rw [IntKind.wrap_u64]
  have h2 : 0 ≤ v % 18446744073709551616 := by omega
  have h3 : 0 ≤ v % 18446744073709551616 % (m : Int) := Int.emod_nonneg _ (by omega)
  have h4 : v % 18446744073709551616 % (m : Int) < m := Int.emod_lt_of_pos _ (by omega)
  refine ⟨((v % 18446744073709551616) % m).toNat, ?_, by omega⟩
  rw [h0', Int.tmod_eq_emod_of_nonneg h2]
  omega
theorem num_32 (v : Int) : ∃ n : Int, wrap64 (wrap32 (IntKind.u64.wrap v % 4294967296)) = n ∧ isNum n = true := ⟨_, rfl, num_yes.2 (by unfold wrap64 wrap32; omega)⟩
theorem i64_m15 (n : Int) : bits .and .i64 n 15 = n % 16 := i64_andq n 15 4 (by decide) (by decide)
theorem i64_m1023 (n : Int) : bits .and .i64 n 1023 = n % 1024 := i64_andq n 1023 10 (by decide) (by decide)
theorem i64_m4095 (n : Int) : bits .and .i64 n 4095 = n % 4096 := i64_andq n 4095 12 (by decide) (by decide)
theorem i64_m31 (n : Int) : bits .and .i64 n 31 = n % 32 := i64_andq n 31 5 (by decide) (by decide)
theorem i64_m3 (n : Int) : bits .and .i64 n 3 = n % 4 := i64_andq n 3 2 (by decide) (by decide)
end Go.Proofs.YtpfgklkdldkajaaDoor

namespace Go.Proofs.YtpfgklkdldkajaaDoor
open Go.RowKit

/-- A call that answers a result, how long its trace is, and a code; the trace lies behind all that was there. -/
def EvalM (r : Rst) (n : Nat) (code : Int) (w : World) (e : Ending) (w' : World) : Prop :=
  ∃ A c, e = .returned (.tuple #[.agg #[.int .i64 r.done, .int .i64 r.value, .slice A n c, .int .i64 r.fuel], .int .i64 code]) ∧ n ≤ c ∧ ReadsI w' A r.out ∧ Below w.heap.size w w' ∧ (0 < n → ∀ a, A = some a → w.heap.size ≤ a.block)
theorem eval_m {p : List Fn} {np cp c na n : Nat} {Ap A : Option Addr} {args : List Int} {fuel code : Int} {w : World} {r : Rst} (hl : Laid w) (hr : ReadsF w Ap p) (ha : ReadsI w A args) (e : p.length = np) (ea : args.length = na) (h1 : evalR p args fuel = r) (h2 : evalC p args fuel = code) (h3 : r.out.length = n) :
    Calls Tryd.prog 26 #[.agg #[.slice Ap np cp], .slice A na c, .int .i64 fuel] w (EvalM r n code w) := by
  subst e ea h1 h2
  refine (eval_any p Ap A cp c args fuel w hl hr ha).mono fun e w' h => ?_
  obtain ⟨ov, rfl, hr, hb⟩ := h
  obtain ⟨A, c, rfl, hc, _⟩ := hr.shape
  subst h3
  refine ⟨A, c, rfl, hc, CRow.ints hr, hb, fun hn a ea => ?_⟩
  obtain ⟨_, _, e, _, _, _, _, hlo, _⟩ := hr.own hn
  injection e with e1 e2 e3
  exact (hlo a (e1 ▸ ea)).1
theorem reads_apart {w w1 : World} {A : Option Addr} {xs : List Int} {b : Nat} (h : ReadsI w A xs) (hk : Chg (fun x => x = b) w w1) (hn : 0 < xs.length → ∀ a, A = some a → b < a.block) : ReadsI w1 A xs := by
  rcases Nat.eq_zero_or_pos xs.length with h0 | h0
  · exact ⟨h.1, fun h1 => by omega⟩
  · exact h.chg hk (fun a e e2 => by have := hn h0 a e; omega)
theorem fuel_start {p : List Fn} {args : List Int} {k m : Int} (hk : 0 ≤ k ∧ k ≤ 1023) (hm : 0 ≤ m ∧ m ≤ 1023) : startB p args (k + m) = startB p args k := by
  unfold startB
  rw [decide_eq_true (show 0 ≤ k by omega), decide_eq_true (show k ≤ 100000 by omega), decide_eq_true (show 0 ≤ k + m by omega), decide_eq_true (show k + m ≤ 100000 by omega)]
/-- The plain law. -/
theorem fuel_law {p : List Fn} {args : List Int} {k m : Int} (hk : 0 ≤ k ∧ k ≤ 1023) (hm : 0 ≤ m ∧ m ≤ 1023) :
    (evalC p args k = 800 ∧ evalC p args (k + m) = 800) ∨ (evalC p args k = 0 ∧ evalC p args (k + m) = 0 ∧ 0 ≤ (evalR p args k).fuel ∧ (evalR p args k).fuel ≤ 100000 ∧
      (((evalR p args k).done = 4 ∧ (evalR p args k).fuel = 0 ∧ beginsB (evalR p args k).out (evalR p args (k + m)).out = true) ∨
       ((evalR p args k).done ≠ 4 ∧ evalR p args (k + m) = ⟨(evalR p args k).done, (evalR p args k).value, (evalR p args k).out, (evalR p args k).fuel + m⟩))) := by
  have hs := fuel_start (p := p) (args := args) hk hm
  cases hb : startB p args k with
  | false =>
    rw [hb] at hs
    exact .inl ⟨(evalN hb).2.1, (evalN hs).2.1⟩
  | true =>
    rw [hb] at hs
    obtain ⟨e1, c1, _⟩ := evalY hb
    obtain ⟨e2, c2, _⟩ := evalY hs
    have es : startS p args k = ⟨[⟨0, 0, beginL args (localsAt p 0).toNat, []⟩], k, [], 0, 0⟩ := by unfold startS; rw [if_pos hb]
    have es2 : startS p args (k + m) = moreS m (startS p args k) := by rw [es]; unfold startS; rw [if_pos hs]; rfl
    have hst := start_state hb
    obtain ⟨he, _⟩ := end_state _ _ rfl hst
    have hfu : 0 ≤ (endS p (startS p args k)).fuel ∧ (endS p (startS p args k)).fuel ≤ 100000 := by
      unfold stateB at he
      simp only [Bool.and_eq_true, decide_eq_true_eq] at he
      exact ⟨he.1.1.1.1.2, he.1.1.1.2⟩
    have hmo := endS_more (p := p) hm.1 _ (startS p args k) (by rw [es]; exact hk.1) rfl (by rw [es])
    refine .inr ⟨c1, c2, by rw [e1]; exact hfu.1, by rw [e1]; exact hfu.2, ?_⟩
    rw [e1, e2, es2]
    by_cases hd : (endS p (startS p args k)).done = 4
    · obtain ⟨h1, o, h2⟩ := hmo.2 hd
      refine .inl ⟨hd, h1, ?_⟩
      show beginsB (endS p (startS p args k)).out (endS p (moreS m (startS p args k))).out = true
      rw [h2]
      unfold beginsB
      simp
    · refine .inr ⟨hd, ?_⟩
      rw [hmo.1 hd]; rfl
set_option maxRecDepth 100000 in
set_option maxHeartbeats 8000000 in
theorem evalFuel_yes (A : Option Addr) (c : Nat) (p : List Fn) (A2 : Option Addr) (c2 : Nat) (args : List Int) (fuel more : Int) (W : World) (hl : Laid W) (hr : ReadsF W A p) (_hz : Fits p) (ha : ReadsI W A2 args) :
    Calls Tryd.prog 7 #[.agg #[.slice A p.length c], .slice A2 args.length c2, .int .i64 fuel, .int .i64 more] W (Ret (.bool true) W) := by
  obtain ⟨w1, hw1⟩ : ∃ w1, W.alloc (.cells #[.slice A p.length c] 24) = w1 := ⟨_, rfl⟩
  have b1 : Below W.heap.size W w1 := hw1 ▸ below_alloc (Below.refl _ _) _
  have r1 : RowAt 24 W.heap.size [.slice A p.length c] w1 := hw1 ▸ RowAt.new _ _ W
  have HA := Lib.hid (awake8_any w1 (hl.below b1))
  have P := Lib.hid r1
  have RF := Lib.hid (hr.below b1)
  have RA := Lib.hid (ha.below b1)
  have BB := Lib.hid b1
  have HL := Lib.hid hl
  have hn1 := hr.1
  have hn2 := ha.1
  clear hl hr ha b1 r1
  go_enter Tryd.func7, Tryd.ntmps7
  go_wp2_with fail
  (with_reducible refine HA.out.mono ?_)
  rintro e w2 ⟨rfl, hB2⟩
  replace P := Lib.hid (P.out.below hB2)
  replace RF := Lib.hid (RF.out.below hB2)
  replace RA := Lib.hid (RA.out.below hB2)
  replace BB := Lib.hid (below_trans BB.out hB2)
  clear hB2 hw1 HA
  obtain ⟨k, hk, k0, k1⟩ : ∃ k : Int, bits .and .i64 fuel 1023 = k ∧ 0 ≤ k ∧ k ≤ 1023 := ⟨fuel % 1024, i64_m1023 _, by omega, by omega⟩
  obtain ⟨m, hm, m0, m1⟩ : ∃ m : Int, bits .and .i64 more 1023 = m ∧ 0 ≤ m ∧ m ≤ 1023 := ⟨more % 1024, i64_m1023 _, by omega, by omega⟩
  have hlaw := fuel_law (p := p) (args := args) ⟨k0, k1⟩ ⟨m0, m1⟩
  have hkm : wrap64 (k + m) = k + m := by unfold wrap64; omega
  have H1 := Lib.hid (eval_n (fuel := k) (cp := c) (c := c2) (HL.out.below BB.out) RF.out RA.out rfl rfl rfl rfl rfl)
  obtain ⟨R1, hR1⟩ : ∃ R1, evalR p args k = R1 := ⟨_, rfl⟩
  obtain ⟨C1, hC1⟩ : ∃ C1, evalC p args k = C1 := ⟨_, rfl⟩
  obtain ⟨R2, hR2⟩ : ∃ R2, evalR p args (k + m) = R2 := ⟨_, rfl⟩
  obtain ⟨C2, hC2⟩ : ∃ C2, evalC p args (k + m) = C2 := ⟨_, rfl⟩
  rw [hR1, hC1] at H1 hlaw
  rw [hR2, hC2] at hlaw
  have HLAW := Lib.hid hlaw
  have HR2 := Lib.hid (And.intro hR2 hC2)
  have M0 := Lib.hid (And.intro m0 m1)
  clear hlaw hR1 hC1 hR2 hC2 k0 k1 m0 m1
  have k2 := row_cell P.out
  go_wp2_with fail
  (with_reducible refine H1.out.mono ?_)
  rintro e w3 ⟨A3, c3, rfl, hc3, hR3, hB3⟩
  obtain ⟨w4, hw4⟩ : ∃ w4, w3.alloc (.cells #[.int .i64 R1.done, .int .i64 R1.value, .slice A3 R1.out.length c3, .int .i64 R1.fuel] 61) = w4 := ⟨_, rfl⟩
  have b4 : Below w3.heap.size w3 w4 := hw4 ▸ below_alloc (Below.refl _ _) _
  have hB4 := below_trans hB3 b4
  have X := Lib.hid (hw4 ▸ RowAt.new _ _ w3 : RowAt 61 w3.heap.size [.int .i64 R1.done, .int .i64 R1.value, .slice A3 R1.out.length c3, .int .i64 R1.fuel] w4)
  have RO := Lib.hid (hR3.below b4)
  have RO3 := Lib.hid hR3
  have B36 := Lib.hid b4
  have WS := Lib.hid (show W.heap.size ≤ w3.heap.size from (below_trans BB.out hB3).size)
  have S34 := Lib.hid (blk_lt X.out)
  replace P := Lib.hid (P.out.below hB4)
  replace RF := Lib.hid (RF.out.below hB4)
  replace RA := Lib.hid (RA.out.below hB4)
  replace BB := Lib.hid (below_trans BB.out hB4)
  have k4 := row_cell P.out
  have H2 := Lib.hid (eval_m (fuel := k + m) (cp := c) (c := c2) (HL.out.below BB.out) RF.out RA.out rfl rfl HR2.out.1 HR2.out.2 rfl)
  clear hB3 b4 hB4 hR3 H1 k2
  go_wp2_with fail
  (with_reducible refine H2.out.mono ?_)
  rintro e w5 ⟨A5, c5, rfl, hc5, hR5, hB5, hlo5⟩
  obtain ⟨w6, hw6⟩ : ∃ w6, w5.alloc (.cells #[.int .i64 R2.done, .int .i64 R2.value, .slice A5 R2.out.length c5, .int .i64 R2.fuel] 61) = w6 := ⟨_, rfl⟩
  have b6 : Below w5.heap.size w5 w6 := hw6 ▸ below_alloc (Below.refl _ _) _
  have hB6 := below_trans hB5 b6
  have Y := Lib.hid (hw6 ▸ RowAt.new _ _ w5 : RowAt 61 w5.heap.size [.int .i64 R2.done, .int .i64 R2.value, .slice A5 R2.out.length c5, .int .i64 R2.fuel] w6)
  have RO2 := Lib.hid (hR5.below b6)
  have XS := Lib.hid (show w3.heap.size < w5.heap.size from Nat.lt_of_lt_of_le (blk_lt X.out) hB5.size)
  replace X := Lib.hid (X.out.below hB6)
  replace RO := Lib.hid (RO.out.below hB6)
  replace B36 := Lib.hid (below_trans B36.out hB6)
  have LO5 := Lib.hid hlo5
  replace BB := Lib.hid (below_trans BB.out hB6)
  have HNUM := Lib.hid (fun (n : Int) (W : World) => numL_any n W)
  have HC5 := Lib.hid hc5
  clear hB5 b6 hB6 hR5 H2 k4 hw4 hc3 hc5 hlo5
  rcases HLAW.out with ⟨rfl, rfl⟩ | ⟨rfl, rfl, f0, f1, h⟩
  · go_wp2_with (first | (go_at_call 15; (with_reducible refine (HNUM.out _ _).mono ?_); rintro e wn ⟨rfl, rfl⟩) | fail)
    go_ret
    exact ⟨rfl, BB.out⟩
  · have x0 : w6.cell? ⟨w3.heap.size, 0, none⟩ = some (.int .i64 R1.done) := X.out.cell (k := 0) (by simp)
    have x1 : w6.cell? ⟨w3.heap.size, 1, none⟩ = some (.int .i64 R1.value) := X.out.cell (k := 1) (by simp)
    have x2 : w6.cell? ⟨w3.heap.size, 2, none⟩ = some (.slice A3 R1.out.length c3) := X.out.cell (k := 2) (by simp)
    have x3 : w6.cell? ⟨w3.heap.size, 3, none⟩ = some (.int .i64 R1.fuel) := X.out.cell (k := 3) (by simp)
    have y2 : w6.cell? ⟨w5.heap.size, 2, none⟩ = some (.slice A5 R2.out.length c5) := Y.out.cell (k := 2) (by simp)
    rcases h with ⟨h4, hf, hbg⟩ | ⟨h4, hr⟩
    · have d4 : (R1.done == 4) = true := by simpa using h4
      have df : (R1.fuel == 0) = true := by simpa using hf
      have HBE := Lib.hid (begins_any R1.out R2.out A3 A5 c3 c5 w6 RO.out RO2.out HC5.out)
      rw [hbg] at HBE
      clear h4 hf hbg f0 f1
      go_wp2_with (first | (go_at_call 15; (with_reducible refine (HNUM.out _ _).mono ?_); rintro e wn ⟨rfl, rfl⟩) | (go_at_call 27; (with_reducible refine HBE.out.mono ?_); rintro e wa ⟨rfl, hBa⟩; have HBA := Lib.hid hBa; clear hBa) | fail)
      go_ret
      exact ⟨rfl, below_trans BB.out HBA.out⟩
    · have d4 : (R1.done == 4) = false := by simpa using h4
      have hw : wrap64 (R1.fuel + m) = R1.fuel + m := by have := M0.out; unfold wrap64; omega
      have hz := X.out.free 3
      obtain ⟨w7, hw7⟩ : ∃ w7, w6.setCell ⟨w3.heap.size, 3, none⟩ (.int .i64 (R1.fuel + m)) = w7 := ⟨_, rfl⟩
      have kc : Chg (fun b => b = w3.heap.size) w6 w7 := hw7 ▸ Chg.put (S := fun b => b = w3.heap.size) (Chg.refl _ w6) (a := ⟨w3.heap.size, 3, none⟩) rfl _
      have X7 : RowAt 61 w3.heap.size [.int .i64 R1.done, .int .i64 R1.value, .slice A3 R1.out.length c3, .int .i64 (R1.fuel + m)] w7 := hw7 ▸ X.out.put 3 (.int .i64 (R1.fuel + m))
      have Y7 := Y.out.chg kc (by have := XS.out; omega)
      have v0 : w7.cell? ⟨w3.heap.size, 0, none⟩ = some (.int .i64 R1.done) := X7.cell (k := 0) (by simp)
      have v1 : w7.cell? ⟨w3.heap.size, 1, none⟩ = some (.int .i64 R1.value) := X7.cell (k := 1) (by simp)
      have v2 : w7.cell? ⟨w3.heap.size, 2, none⟩ = some (.slice A3 R1.out.length c3) := X7.cell (k := 2) (by simp)
      have v3 : w7.cell? ⟨w3.heap.size, 3, none⟩ = some (.int .i64 (R1.fuel + m)) := X7.cell (k := 3) (by simp)
      have u0 : w7.cell? ⟨w5.heap.size, 0, none⟩ = some (.int .i64 R2.done) := Y7.cell (k := 0) (by simp)
      have u1 : w7.cell? ⟨w5.heap.size, 1, none⟩ = some (.int .i64 R2.value) := Y7.cell (k := 1) (by simp)
      have u2 : w7.cell? ⟨w5.heap.size, 2, none⟩ = some (.slice A5 R2.out.length c5) := Y7.cell (k := 2) (by simp)
      have u3 : w7.cell? ⟨w5.heap.size, 3, none⟩ = some (.int .i64 R2.fuel) := Y7.cell (k := 3) (by simp)
      have HS := Lib.hid (same_n (x := ⟨R1.done, R1.value, R1.out, R1.fuel + m⟩) (y := R2) (c := c3) (d := c5) (n := R1.out.length) (m := R2.out.length) (b := true) (w := w7) (RO3.out.below (Chg.below B36.out kc (fun b e => by omega))) (reads_apart RO2.out kc (fun hn a e => by have := LO5.out hn a e; have := S34.out; omega)) rfl rfl (by rw [hr]; simp))
      have B7 := Lib.hid (show Below W.heap.size W w7 from Chg.below BB.out kc (fun b e => by have := WS.out; omega))
      clear h4 hr kc X7 Y7 f0 f1
      go_wp2_with (first | (go_at_call 15; (with_reducible refine (HNUM.out _ _).mono ?_); rintro e wn ⟨rfl, rfl⟩) | (go_at_call 28; (with_reducible refine HS.out.mono ?_); rintro e wa ⟨rfl, hBa⟩; have HBA := Lib.hid hBa; clear hBa) | fail)
      go_ret
      exact ⟨rfl, below_trans B7.out HBA.out⟩
end Go.Proofs.YtpfgklkdldkajaaDoor
