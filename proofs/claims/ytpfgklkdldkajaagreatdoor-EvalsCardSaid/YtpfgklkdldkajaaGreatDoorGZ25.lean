/- 'SameResult', 'Begins'; 'eval.Go' of a state that may not be. Conditions: the lists lie in memory; errors.errorType is laid. 'two', 'small' of the statements on swagelaw8. Conditions: the code lies in memory. 'awake' of the statements on eval. Condition: errors.errorType is laid. -/
import Derived.Test.YtpfgklkdldkajaaGreatDoorGZ24
import Derived.Test.YtpfgklkdldkajaaGreatDoorGZ13
import Derived.Test.YtpfgklkdldkajaaGreatDoorGZ12
import Derived.Test.YtpfgklkdldkajaaGreatDoorGZ15
namespace Go.Proofs.YtpfgklkdldkajaaGreatDoor
open Go.RowKit

instance : DecidableEq Rst := fun x y => if h : x.done = y.done ∧ x.value = y.value ∧ x.out = y.out ∧ x.fuel = y.fuel then isTrue (by cases x; cases y; obtain ⟨h1, h2, h3, h4⟩ := h; simp only at h1 h2 h3 h4; rw [h1, h2, h3, h4]) else isFalse (fun e => h (by rw [e]; exact ⟨rfl, rfl, rfl, rfl⟩))
def resV (r : Rst) (A : Option Addr) (c : Nat) : Value := .agg #[.int .i64 r.done, .int .i64 r.value, .slice A r.out.length c, .int .i64 r.fuel]
set_option maxRecDepth 100000 in
set_option maxHeartbeats 4000000 in
theorem sameResult_any (x y : Rst) (A B : Option Addr) (c d : Nat) (w : World) (hx : ReadsI w A x.out) (hy : ReadsI w B y.out) :
    Calls Tryz.prog 40 #[resV x A c, resV y B d] w (Ret (.bool (decide (x = y))) w) := by
  obtain ⟨xd, xv, xo, xf⟩ := x
  obtain ⟨yd, yv, yo, yf⟩ := y
  unfold resV
  simp only at hx hy ⊢
  obtain ⟨w1, hw1⟩ : ∃ w1, w.alloc (.cells #[.int .i64 xd, .int .i64 xv, .slice A xo.length c, .int .i64 xf] 74) = w1 := ⟨_, rfl⟩
  obtain ⟨w2, hw2⟩ : ∃ w2, w1.alloc (.cells #[.int .i64 yd, .int .i64 yv, .slice B yo.length d, .int .i64 yf] 74) = w2 := ⟨_, rfl⟩
  have b1 : Below w.heap.size w w1 := hw1 ▸ below_alloc (Below.refl _ _) _
  have b2 : Below w1.heap.size w1 w2 := hw2 ▸ below_alloc (Below.refl _ _) _
  have b12 := below_trans b1 b2
  have r1 : RowAt 74 w.heap.size [.int .i64 xd, .int .i64 xv, .slice A xo.length c, .int .i64 xf] w2 := (hw1 ▸ RowAt.new _ _ w : RowAt 74 w.heap.size _ w1).below b2
  have r2 : RowAt 74 w1.heap.size [.int .i64 yd, .int .i64 yv, .slice B yo.length d, .int .i64 yf] w2 := hw2 ▸ RowAt.new _ _ w1
  have k0 := r1.cell (k := 0) (by simp)
  have k1 := r1.cell (k := 1) (by simp)
  have k2 := r1.cell (k := 2) (by simp)
  have k3 := r1.cell (k := 3) (by simp)
  have l0 := r2.cell (k := 0) (by simp)
  have l1 := r2.cell (k := 1) (by simp)
  have l2 := r2.cell (k := 2) (by simp)
  have l3 := r2.cell (k := 3) (by simp)
  simp only [List.getElem_cons_succ, List.getElem_cons_zero] at k0 k1 k2 k3 l0 l1 l2 l3
  have HO := Lib.hid (sameInts_any A B c d xo yo w2 (hx.below b12) (hy.below b12))
  have HB := Lib.hid b12
  have HE := Lib.hid (show decide ((⟨xd, xv, xo, xf⟩ : Rst) = ⟨yd, yv, yo, yf⟩) = (decide (xd = yd) && decide (xv = yv) && decide (xf = yf) && decide (xo = yo)) by
    rw [Bool.eq_iff_iff]; simp only [decide_eq_true_eq, Bool.and_eq_true, Rst.mk.injEq]
    constructor
    · rintro ⟨a, b, c, d⟩; exact ⟨⟨⟨a, b⟩, d⟩, c⟩
    · rintro ⟨⟨⟨a, b⟩, d⟩, c⟩; exact ⟨a, b, c, d⟩)
  rw [HE.out]
  obtain ⟨bo, ebo⟩ : ∃ bo, decide (xo = yo) = bo := ⟨_, rfl⟩
  rw [ebo] at HO ⊢
  clear b1 b2 b12 r1 r2 hx hy HE ebo
  go_enter Tryz.func40, Tryz.ntmps40
  go_wp2_with (go_at_call 35; refine HO.out.mono ?_; rintro e w' ⟨rfl, n, rfl⟩)
  all_goals go_ret
  all_goals refine ret_tail ?_ HB.out (by first | exact Below.refl _ _ | exact below_drew (Below.refl _ _) _ | (rw [drewN_two]; exact below_drew (Below.refl _ _) _))
  all_goals clear HO HB k0 k1 k2 k3 l0 l1 l2 l3
  all_goals first | (simp_all; done) | (cases bo <;> simp_all [beq_dec]; done)
/-- Is one list a beginning of the other? -/
def beginsB (xs ys : List Int) : Bool := decide (xs.length ≤ ys.length) && decide (xs = ys.take xs.length)
theorem reads_take {w : World} {A : Option Addr} {xs : List Int} {m : Nat} (h : ReadsI w A xs) : ReadsI w A (xs.take m) :=
  ⟨by rw [List.length_take]; have := h.1; omega, fun h0 => by
    rw [List.length_take] at h0
    obtain ⟨ad, e, hc⟩ := h.2 (by omega)
    exact ⟨ad, e, fun j hj => by rw [List.length_take] at hj; rw [List.getElem_take]; exact hc j (by omega)⟩⟩
set_option maxRecDepth 100000 in
set_option maxHeartbeats 4000000 in
theorem begins_any (xs ys : List Int) (A B : Option Addr) (c d : Nat) (w : World) (hx : ReadsI w A xs) (hy : ReadsI w B ys) (hd : ys.length ≤ d) :
    Calls Tryz.prog 33 #[.slice A xs.length c, .slice B ys.length d] w (Ret (.bool (beginsB xs ys)) w) := by
  have n1 := hx.1
  have n2 := hy.1
  by_cases hle : xs.length ≤ ys.length
  · have hlt : (ys.take xs.length).length = xs.length := by rw [List.length_take]; omega
    have H := sameInts_any A B c d xs (ys.take xs.length) w hx (reads_take hy)
    rw [hlt] at H
    have HO := Lib.hid H
    obtain ⟨i, hi, _⟩ := info_parts info_int
    have RI := run_initA (P := Tryz.prog) 28 3 Tryz.underlying28 i hi B ys.length d xs.length (by omega)
    have d1 : decide (ys.length < xs.length) = false := by simp; omega
    have d2 : decide ((ys.length : Int) < (xs.length : Int)) = false := by simp; omega
    have HE := Lib.hid (show beginsB xs ys = decide (xs = ys.take xs.length) by unfold beginsB; rw [decide_eq_true hle]; rfl)
    obtain ⟨bo, ebo⟩ : ∃ bo, decide (xs = ys.take xs.length) = bo := ⟨_, rfl⟩
    rw [ebo] at HO HE
    clear hx hy H hi hle ebo hlt
    go_enter Tryz.func33, Tryz.ntmps33
    go_wp2_with (go_at_call 35; refine HO.out.mono ?_; rintro e w' ⟨rfl, n, rfl⟩)
    go_ret
    exact ret_tail (by rw [HE.out]; rfl) (Below.refl _ _) (below_drew (Below.refl _ _) _)
  · have d1 : decide (ys.length < xs.length) = true := by simp; omega
    have d2 : decide ((ys.length : Int) < (xs.length : Int)) = true := by simp; omega
    have HE := Lib.hid (show beginsB xs ys = false by unfold beginsB; rw [decide_eq_false hle]; rfl)
    clear hx hy hle
    go_enter Tryz.func33, Tryz.ntmps33
    go_wp2_with fail
    go_ret
    exact ret_tail (by rw [HE.out]; rfl) (Below.refl _ _) (Below.refl _ _)
set_option maxRecDepth 100000 in
set_option maxHeartbeats 4000000 in
/-- A state that may not be is refused. -/
theorem go_no (p : List Fn) (Ap : Option Addr) (cp : Nat) (w : World) (hl : Laid w) (hr : ReadsF w Ap p) (hn : stateB p ⟨[], 0, [], 0, 0⟩ = false) :
    Calls Tryz.prog 38 #[.agg #[.slice Ap p.length cp], .agg #[.slice none 0 0, .int .i64 0, .slice none 0 0, .int .i64 0, .int .i64 0]] w (EvalE zeroR 800 w) := by
  obtain ⟨w1, hw1⟩ : ∃ w1, w.alloc (.cells #[.slice Ap p.length cp] 24) = w1 := ⟨_, rfl⟩
  obtain ⟨w2, hw2⟩ : ∃ w2, w1.alloc (.cells #[.slice none 0 0, .int .i64 0, .slice none 0 0, .int .i64 0, .int .i64 0] 47) = w2 := ⟨_, rfl⟩
  obtain ⟨w3, hw3⟩ : ∃ w3, w2.alloc (.cells #[.int .i64 0, .int .i64 0, .slice none 0 0, .int .i64 0] 74) = w3 := ⟨_, rfl⟩
  have b1 : Below w.heap.size w w1 := hw1 ▸ below_alloc (Below.refl _ _) _
  have b2 : Below w1.heap.size w1 w2 := hw2 ▸ below_alloc (Below.refl _ _) _
  have b3 : Below w2.heap.size w2 w3 := hw3 ▸ below_alloc (Below.refl _ _) _
  have b03 := below_trans (below_trans b1 b2) b3
  have y1 : w1.heap.size = w.heap.size + 1 := by rw [← hw1]; simp
  have y2 : w2.heap.size = w.heap.size + 2 := by rw [← hw2]; simp [y1]
  have r1 : RowAt 24 w.heap.size [.slice Ap p.length cp] w3 := (hw1 ▸ RowAt.new _ _ w : RowAt 24 w.heap.size _ w1).below (below_trans b2 b3)
  have r2 : RowAt 47 w1.heap.size [.slice none 0 0, .int .i64 0, .slice none 0 0, .int .i64 0, .int .i64 0] w3 := (hw2 ▸ RowAt.new _ _ w1 : RowAt 47 w1.heap.size _ w2).below b3
  have r3 : RowAt 74 w2.heap.size [.int .i64 0, .int .i64 0, .slice none 0 0, .int .i64 0] w3 := hw3 ▸ RowAt.new _ _ w2
  have k1 := row_cell r1
  have s0 := r2.cell (k := 0) (by simp)
  have s1 := r2.cell (k := 1) (by simp)
  have s2 := r2.cell (k := 2) (by simp)
  have s3 := r2.cell (k := 3) (by simp)
  have s4 := r2.cell (k := 4) (by simp)
  simp only [List.getElem_cons_zero, List.getElem_cons_succ] at s0 s1 s2 s3 s4
  have HS := Lib.hid (show Calls Tryz.prog 32 #[.agg #[.slice Ap p.length cp], .agg #[.slice none 0 0, .int .i64 0, .slice none 0 0, .int .i64 0, .int .i64 0]] w3 (Ret (.bool false) w3) by
    have := state_any p Ap none none cp 0 0 ⟨[], 0, [], 0, 0⟩ w3 (hl.below b03) (hr.below b03) ⟨by simp, fun h => absurd h (by simp)⟩ (by simp) ⟨by simp, fun h => absurd h (by simp)⟩
    rw [hn] at this
    exact this)
  have R3 := Lib.hid r3
  have B3 := Lib.hid b03
  have Y := Lib.hid y2
  clear hl hr hn b1 b2 b3 b03 r1 r2 r3 y1 y2
  go_enter Tryz.func38, Tryz.ntmps38
  go_wp2_with fail
  (with_reducible refine HS.out.mono ?_)
  rintro e w4 ⟨rfl, hB⟩
  have r4 := R3.out.below hB
  obtain ⟨c0, c1, c2, c3⟩ : w4.cell? ⟨w2.heap.size, 0, none⟩ = some (.int .i64 0) ∧ w4.cell? ⟨w2.heap.size, 1, none⟩ = some (.int .i64 0) ∧ w4.cell? ⟨w2.heap.size, 2, none⟩ = some (.slice none 0 0) ∧ w4.cell? ⟨w2.heap.size, 3, none⟩ = some (.int .i64 0) := ⟨r4.cell (k := 0) (by simp), r4.cell (k := 1) (by simp), r4.cell (k := 2) (by simp), r4.cell (k := 3) (by simp)⟩
  have z0 := r4.free 0
  have z1 := r4.free 1
  have z2 := r4.free 2
  have z3 := r4.free 3
  have pz := put4 r4 rfl (.int .i64 0) (.int .i64 0) (.slice none 0 0) (.int .i64 0)
  have EE := Lib.hid pz.1
  have FIN := Lib.hid (show EvalE zeroR 800 w (.returned (.tuple #[.agg #[.int .i64 0, .int .i64 0, .slice none 0 0, .int .i64 0], .int .i64 800])) _ from ⟨.slice none 0 0, rfl, CRow.nil _ _ _ _, Chg.below (below_trans B3.out hB) pz.2 (fun b e => by have := Y.out; omega)⟩)
  clear pz hB r4 hw1 hw2 hw3 k1 s0 s1 s2 s3 s4
  go_wp2_with fail
  exact bodyPost_ret (v := .tuple #[.agg #[.int .i64 0, .int .i64 0, .slice none 0 0, .int .i64 0], .int .i64 800]) (by simp [results, Tryz.results38, go_sem, EE.out.1, EE.out.2.1, EE.out.2.2.1, EE.out.2.2.2]) rfl FIN.out
end Go.Proofs.YtpfgklkdldkajaaGreatDoor

namespace Go.Proofs.YtpfgklkdldkajaaGreatDoor
open Go.RowKit

set_option maxRecDepth 100000 in
set_option maxHeartbeats 1000000 in
theorem two_any (w : World) : Calls Tryz.prog 76 #[] w (ProgL twoP 2 w) := by
  have HR := Lib.hid (two_reads w)
  have HB := Lib.hid (allocsL_below (twoO w.heap.size) w)
  go_enter Tryz.func76, Tryz.ntmps76
  go_wp2_with fail
  exact bodyPost_ret (v := .agg #[.slice (some ⟨w.heap.size + 3, 0, none⟩) 2 2]) (by simp [results, Tryz.results76, go_sem]) rfl ⟨_, rfl, HR.out, HB.out⟩
end Go.Proofs.YtpfgklkdldkajaaGreatDoor

namespace Go.Proofs.YtpfgklkdldkajaaGreatDoor
open Go.RowKit

/-- A call that answers a result, how long its trace is, and a code. -/
def EvalN (r : Rst) (n : Nat) (code : Int) (w : World) (e : Ending) (w' : World) : Prop :=
  ∃ A c, e = .returned (.tuple #[.agg #[.int .i64 r.done, .int .i64 r.value, .slice A n c, .int .i64 r.fuel], .int .i64 code]) ∧ n ≤ c ∧ ReadsI w' A r.out ∧ Below w.heap.size w w'
theorem EvalE.n {r : Rst} {code : Int} {w : World} {e : Ending} {w' : World} {n : Nat} (h : EvalE r code w e w') (hn : r.out.length = n) : EvalN r n code w e w' := by
  obtain ⟨ov, rfl, hr, hb⟩ := h
  obtain ⟨A, c, rfl, hc, _⟩ := hr.shape
  subst hn
  exact ⟨A, c, rfl, hc, CRow.ints hr, hb⟩
theorem eval_n {p : List Fn} {np cp c na n : Nat} {Ap A : Option Addr} {args : List Int} {fuel code : Int} {w : World} {r : Rst} (hl : Laid w) (hr : ReadsF w Ap p) (ha : ReadsI w A args) (e : p.length = np) (ea : args.length = na) (h1 : evalR p args fuel = r) (h2 : evalC p args fuel = code) (h3 : r.out.length = n) :
    Calls Tryz.prog 36 #[.agg #[.slice Ap np cp], .slice A na c, .int .i64 fuel] w (EvalN r n code w) := by
  subst e ea h1 h2
  exact (eval_any p Ap A cp c args fuel w hl hr ha).mono fun e w' h => h.n h3
theorem go_n {p : List Fn} {np cp : Nat} {Ap : Option Addr} {w : World} (hl : Laid w) (hr : ReadsF w Ap p) (e : p.length = np) (hn : stateB p ⟨[], 0, [], 0, 0⟩ = false) :
    Calls Tryz.prog 38 #[.agg #[.slice Ap np cp], .agg #[.slice none 0 0, .int .i64 0, .slice none 0 0, .int .i64 0, .int .i64 0]] w (EvalN zeroR 0 800 w) := by
  subst e
  exact (go_no p Ap cp w hl hr hn).mono fun e w' h => h.n rfl
theorem same_n {x y : Rst} {A B : Option Addr} {c d n m : Nat} {w : World} {b : Bool} (hx : ReadsI w A x.out) (hy : ReadsI w B y.out) (e1 : x.out.length = n) (e2 : y.out.length = m) (hb : decide (x = y) = b) :
    Calls Tryz.prog 40 #[.agg #[.int .i64 x.done, .int .i64 x.value, .slice A n c, .int .i64 x.fuel], .agg #[.int .i64 y.done, .int .i64 y.value, .slice B m d, .int .i64 y.fuel]] w (Ret (.bool b) w) := by
  subst e1 e2 hb
  exact sameResult_any x y A B c d w hx hy
theorem ar1 : evalR twoP [5] 99 = ⟨1, 7, [7], 89⟩ := by kernel_rfl
theorem ac1 : evalC twoP [5] 99 = 0 := by kernel_rfl
theorem ar2 : evalR twoP [5] 3 = ⟨4, 0, [], 0⟩ := by kernel_rfl
theorem ac2 : evalC twoP [5] 3 = 0 := by kernel_rfl
theorem ar3 : evalR twoP [] 3 = ⟨0, 0, [], 0⟩ := by kernel_rfl
theorem ac3 : evalC twoP [] 3 = 800 := by kernel_rfl
theorem ab4 : stateB twoP ⟨[], 0, [], 0, 0⟩ = false := by kernel_rfl
theorem ints_new {w : World} {xs : List Int} (h : xs.length ≤ 1000) : ReadsI (w.alloc (.cells (intsV xs).toArray 3)) (some ⟨w.heap.size, 0, none⟩) xs := intsL (RowAt.new _ _ w) h
set_option maxRecDepth 100000 in
set_option maxHeartbeats 8000000 in
theorem awake8_any (w : World) (hl : Laid w) : Calls Tryz.prog 42 #[] w (Ret (.bool true) w) := by
  have HL := Lib.hid hl
  have HT := Lib.hid (two_any w)
  clear hl
  go_enter Tryz.func42, Tryz.ntmps42
  go_wp2_with fail
  (with_reducible refine HT.out.mono ?_)
  rintro e w1 ⟨g, rfl, hr1, hB1⟩
  obtain ⟨w2, hw2⟩ : ∃ w2, w1.alloc (.cells #[.slice (some ⟨g, 0, none⟩) 2 2] 24) = w2 := ⟨_, rfl⟩
  have b2 : Below w1.heap.size w1 w2 := hw2 ▸ below_alloc (Below.refl _ _) _
  have P := Lib.hid (hw2 ▸ RowAt.new _ _ w1 : RowAt 24 w1.heap.size [.slice (some ⟨g, 0, none⟩) 2 2] w2)
  have RF := Lib.hid (hr1.below b2)
  have BB := Lib.hid (below_trans hB1 b2)
  clear hr1 hB1 b2
  have k0 := row_cell P.out
  obtain ⟨w3, hw3⟩ : ∃ w3, w2.alloc (.cells #[.int .i64 5] 3) = w3 := ⟨_, rfl⟩
  have b3 : Below w2.heap.size w2 w3 := hw3 ▸ below_alloc (Below.refl _ _) _
  have N3 := Lib.hid (show ReadsI w3 (some ⟨w2.heap.size, 0, none⟩) [5] from hw3 ▸ ints_new (w := w2) (by simp))
  replace P := Lib.hid (P.out.below b3)
  replace RF := Lib.hid (RF.out.below b3)
  replace BB := Lib.hid (below_trans BB.out b3)
  have kk0 := row_cell P.out
  have H0 := Lib.hid (eval_n (fuel := 99) (cp := 2) (c := 1) (A := (some ⟨w2.heap.size, 0, none⟩)) (HL.out.below BB.out) RF.out N3.out twoP_len (len1 _) ar1 ac1 (len1 _))
  go_wp2_with fail
  (with_reducible refine H0.out.mono ?_)
  rintro e w4 ⟨A4, c4, rfl, hc4, hR4, hB4⟩
  replace P := Lib.hid (P.out.below hB4)
  replace N3 := Lib.hid (N3.out.below hB4)
  replace RF := Lib.hid (RF.out.below hB4)
  replace BB := Lib.hid (below_trans BB.out hB4)
  have RR0 := Lib.hid hR4
  clear hR4 hB4 hc4 k0 kk0
  simp only []
  obtain ⟨w5, hw5⟩ : ∃ w5, w4.alloc (.cells #[.int .i64 1, .int .i64 7, .slice A4 1 c4, .int .i64 89] 74) = w5 := ⟨_, rfl⟩
  have b5 : Below w4.heap.size w4 w5 := hw5 ▸ below_alloc (Below.refl _ _) _
  have N5 := Lib.hid (hw5 ▸ RowAt.new _ _ w4 : RowAt 74 w4.heap.size [.int .i64 1, .int .i64 7, .slice A4 1 c4, .int .i64 89] w5)
  replace P := Lib.hid (P.out.below b5)
  replace N3 := Lib.hid (N3.out.below b5)
  replace RR0 := Lib.hid (RR0.out.below b5)
  replace RF := Lib.hid (RF.out.below b5)
  replace BB := Lib.hid (below_trans BB.out b5)
  have k1 := row_cell P.out
  obtain ⟨w6, hw6⟩ : ∃ w6, w5.alloc (.cells #[.int .i64 5] 3) = w6 := ⟨_, rfl⟩
  have b6 : Below w5.heap.size w5 w6 := hw6 ▸ below_alloc (Below.refl _ _) _
  have N6 := Lib.hid (show ReadsI w6 (some ⟨w5.heap.size, 0, none⟩) [5] from hw6 ▸ ints_new (w := w5) (by simp))
  replace P := Lib.hid (P.out.below b6)
  replace N5 := Lib.hid (N5.out.below b6)
  replace N3 := Lib.hid (N3.out.below b6)
  replace RR0 := Lib.hid (RR0.out.below b6)
  replace RF := Lib.hid (RF.out.below b6)
  replace BB := Lib.hid (below_trans BB.out b6)
  have kk1 := row_cell P.out
  have H1 := Lib.hid (eval_n (fuel := 3) (cp := 2) (c := 1) (A := (some ⟨w5.heap.size, 0, none⟩)) (HL.out.below BB.out) RF.out N6.out twoP_len (len1 _) ar2 ac2 len0)
  go_wp2_with fail
  (with_reducible refine H1.out.mono ?_)
  rintro e w7 ⟨A7, c7, rfl, hc7, hR7, hB7⟩
  replace P := Lib.hid (P.out.below hB7)
  replace N5 := Lib.hid (N5.out.below hB7)
  replace N3 := Lib.hid (N3.out.below hB7)
  replace RR0 := Lib.hid (RR0.out.below hB7)
  replace N6 := Lib.hid (N6.out.below hB7)
  replace RF := Lib.hid (RF.out.below hB7)
  replace BB := Lib.hid (below_trans BB.out hB7)
  have RR1 := Lib.hid hR7
  clear hR7 hB7 hc7 k1 kk1
  simp only []
  have b8 : Below w7.heap.size w7 (w7.alloc (.cells #[.int .i64 4, .int .i64 0, .slice A7 0 c7, .int .i64 0] 74)) := below_alloc (Below.refl _ _) _
  have N8 := Lib.hid (RowAt.new _ _ w7 : RowAt 74 w7.heap.size [.int .i64 4, .int .i64 0, .slice A7 0 c7, .int .i64 0] (w7.alloc (.cells #[.int .i64 4, .int .i64 0, .slice A7 0 c7, .int .i64 0] 74)))
  replace P := Lib.hid (P.out.below b8)
  replace N5 := Lib.hid (N5.out.below b8)
  replace N3 := Lib.hid (N3.out.below b8)
  replace RR0 := Lib.hid (RR0.out.below b8)
  replace N6 := Lib.hid (N6.out.below b8)
  replace RR1 := Lib.hid (RR1.out.below b8)
  replace RF := Lib.hid (RF.out.below b8)
  replace BB := Lib.hid (below_trans BB.out b8)
  clear b8
  have k2 := row_cell P.out
  have H2 := Lib.hid (eval_n (fuel := 3) (cp := 2) (c := 0) (A := none) (HL.out.below BB.out) RF.out ⟨by simp, fun h => absurd h (by simp)⟩ twoP_len len0 ar3 ac3 len0)
  go_wp2_with fail
  (with_reducible refine H2.out.mono ?_)
  rintro e w9 ⟨A9, c9, rfl, hc9, hR9, hB9⟩
  replace P := Lib.hid (P.out.below hB9)
  replace N5 := Lib.hid (N5.out.below hB9)
  replace N8 := Lib.hid (N8.out.below hB9)
  replace N3 := Lib.hid (N3.out.below hB9)
  replace RR0 := Lib.hid (RR0.out.below hB9)
  replace N6 := Lib.hid (N6.out.below hB9)
  replace RR1 := Lib.hid (RR1.out.below hB9)
  replace RF := Lib.hid (RF.out.below hB9)
  replace BB := Lib.hid (below_trans BB.out hB9)
  clear hR9 hB9 hc9 k2
  simp only []
  have b10 : Below w9.heap.size w9 (w9.alloc (.cells #[.int .i64 0, .int .i64 0, .slice A9 0 c9, .int .i64 0] 74)) := below_alloc (Below.refl _ _) _
  have N10 := Lib.hid (RowAt.new _ _ w9 : RowAt 74 w9.heap.size [.int .i64 0, .int .i64 0, .slice A9 0 c9, .int .i64 0] (w9.alloc (.cells #[.int .i64 0, .int .i64 0, .slice A9 0 c9, .int .i64 0] 74)))
  replace P := Lib.hid (P.out.below b10)
  replace N5 := Lib.hid (N5.out.below b10)
  replace N8 := Lib.hid (N8.out.below b10)
  replace N3 := Lib.hid (N3.out.below b10)
  replace RR0 := Lib.hid (RR0.out.below b10)
  replace N6 := Lib.hid (N6.out.below b10)
  replace RR1 := Lib.hid (RR1.out.below b10)
  replace RF := Lib.hid (RF.out.below b10)
  replace BB := Lib.hid (below_trans BB.out b10)
  clear b10
  have kg := row_cell P.out
  have HG := Lib.hid (go_n (cp := 2) (HL.out.below BB.out) RF.out twoP_len ab4)
  go_wp2_with fail
  (with_reducible refine HG.out.mono ?_)
  rintro e w11 ⟨A11, c11, rfl, hc11, hR11, hB11⟩
  replace P := Lib.hid (P.out.below hB11)
  replace N5 := Lib.hid (N5.out.below hB11)
  replace N8 := Lib.hid (N8.out.below hB11)
  replace N10 := Lib.hid (N10.out.below hB11)
  replace N3 := Lib.hid (N3.out.below hB11)
  replace RR0 := Lib.hid (RR0.out.below hB11)
  replace N6 := Lib.hid (N6.out.below hB11)
  replace RR1 := Lib.hid (RR1.out.below hB11)
  replace RF := Lib.hid (RF.out.below hB11)
  replace BB := Lib.hid (below_trans BB.out hB11)
  clear hR11 hB11 hc11 kg
  simp only [zeroR]
  have b12 : Below w11.heap.size w11 (w11.alloc (.cells #[.int .i64 0, .int .i64 0, .slice A11 0 c11, .int .i64 0] 74)) := below_alloc (Below.refl _ _) _
  have N12 := Lib.hid (RowAt.new _ _ w11 : RowAt 74 w11.heap.size [.int .i64 0, .int .i64 0, .slice A11 0 c11, .int .i64 0] (w11.alloc (.cells #[.int .i64 0, .int .i64 0, .slice A11 0 c11, .int .i64 0] 74)))
  replace P := Lib.hid (P.out.below b12)
  replace N5 := Lib.hid (N5.out.below b12)
  replace N8 := Lib.hid (N8.out.below b12)
  replace N10 := Lib.hid (N10.out.below b12)
  replace N3 := Lib.hid (N3.out.below b12)
  replace RR0 := Lib.hid (RR0.out.below b12)
  replace N6 := Lib.hid (N6.out.below b12)
  replace RR1 := Lib.hid (RR1.out.below b12)
  replace RF := Lib.hid (RF.out.below b12)
  replace BB := Lib.hid (below_trans BB.out b12)
  clear b12
  have a0 := N5.out.cell (k := 0) (by simp)
  have a1 := N5.out.cell (k := 1) (by simp)
  have a2 := N5.out.cell (k := 2) (by simp)
  have a3 := N5.out.cell (k := 3) (by simp)
  have b0 := N8.out.cell (k := 0) (by simp)
  have b1 := N8.out.cell (k := 1) (by simp)
  have b2 := N8.out.cell (k := 2) (by simp)
  have b3 := N8.out.cell (k := 3) (by simp)
  simp only [List.getElem_cons_zero, List.getElem_cons_succ] at a0 a1 a2 a3 b0 b1 b2 b3
  obtain ⟨w13, hw13⟩ : ∃ w13, (w11.alloc (.cells #[.int .i64 0, .int .i64 0, .slice A11 0 c11, .int .i64 0] 74)).alloc (.cells #[.int .i64 7] 3) = w13 := ⟨_, rfl⟩
  have b13 : Below (w11.alloc (.cells #[.int .i64 0, .int .i64 0, .slice A11 0 c11, .int .i64 0] 74)).heap.size (w11.alloc (.cells #[.int .i64 0, .int .i64 0, .slice A11 0 c11, .int .i64 0] 74)) w13 := hw13 ▸ below_alloc (Below.refl _ _) _
  have N13 := Lib.hid (show ReadsI w13 (some ⟨(w11.alloc (.cells #[.int .i64 0, .int .i64 0, .slice A11 0 c11, .int .i64 0] 74)).heap.size, 0, none⟩) [7] from hw13 ▸ ints_new (w := (w11.alloc (.cells #[.int .i64 0, .int .i64 0, .slice A11 0 c11, .int .i64 0] 74))) (by simp))
  replace P := Lib.hid (P.out.below b13)
  replace N5 := Lib.hid (N5.out.below b13)
  replace N8 := Lib.hid (N8.out.below b13)
  replace N10 := Lib.hid (N10.out.below b13)
  replace N12 := Lib.hid (N12.out.below b13)
  replace N3 := Lib.hid (N3.out.below b13)
  replace RR0 := Lib.hid (RR0.out.below b13)
  replace N6 := Lib.hid (N6.out.below b13)
  replace RR1 := Lib.hid (RR1.out.below b13)
  replace RF := Lib.hid (RF.out.below b13)
  replace BB := Lib.hid (below_trans BB.out b13)
  have d0 := N8.out.cell (k := 0) (by simp)
  have d1 := N8.out.cell (k := 1) (by simp)
  have d2 := N8.out.cell (k := 2) (by simp)
  have d3 := N8.out.cell (k := 3) (by simp)
  simp only [List.getElem_cons_zero, List.getElem_cons_succ] at d0 d1 d2 d3
  have N7 : ReadsI w13 (some ⟨w11.heap.size + 1, 0, none⟩) [7] := by
    have h := N13.out
    rwa [show ((w11.alloc (.cells #[.int .i64 0, .int .i64 0, .slice A11 0 c11, .int .i64 0] 74))).heap.size = w11.heap.size + 1 by simp] at h
  have HS1 := Lib.hid (same_n (x := ⟨1, 7, [7], 89⟩) (y := ⟨1, 7, [7], 89⟩) (c := c4) (d := 1) (b := true) RR0.out N7 (len1 _) (len1 _) (by decide))
  have HNUM := Lib.hid (fun (n : Int) (W : World) => numL_any n W)
  go_wp2_with (first | (go_at_call 19; (with_reducible refine (HNUM.out _ _).mono ?_); rintro e wn ⟨rfl, rfl⟩) | (go_at_call 40; (with_reducible refine HS1.out.mono ?_); rintro e wa ⟨rfl, hBa⟩; have HBA := Lib.hid hBa; have e0 := cell_below hBa d0; have e1 := cell_below hBa d1; have e2 := cell_below hBa d2; have e3 := cell_below hBa d3; have HS2 := Lib.hid (same_n (x := ⟨4, 0, [], 0⟩) (y := ⟨4, 0, [], 0⟩) (c := c7) (d := 0) (A := A7) (B := none) (n := 0) (m := 0) (b := true) (w := wa) ⟨by simp, fun h => absurd h (by simp)⟩ ⟨by simp, fun h => absurd h (by simp)⟩ rfl rfl (by decide)); clear hBa HS1) | (go_at_call 40; (with_reducible refine HS2.out.mono ?_); rintro e wb ⟨rfl, hBb⟩; have HBB := Lib.hid hBb; clear hBb HS2) | fail)
  go_ret
  exact ⟨rfl, below_trans BB.out (below_trans HBA.out HBB.out)⟩
end Go.Proofs.YtpfgklkdldkajaaGreatDoor
