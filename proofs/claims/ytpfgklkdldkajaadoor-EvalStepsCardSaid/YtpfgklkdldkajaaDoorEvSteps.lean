/- EvalSteps: the walk. From wherever it goes on, a step ahead turns nothing of what it comes to. Conditions: errors.errorType is laid; the program, the state lie in memory. -/
import Derived.Test.YtpfgklkdldkajaaDoorStepC
import Derived.Test.YtpfgklkdldkajaaDoorGE25
import Derived.Test.YtpfgklkdldkajaaDoorGE14
namespace Go.Proofs.YtpfgklkdldkajaaDoor
open Go.RowKit

theorem go_m {p : List Fn} {Ap A Ao : Option Addr} {cp c co np nf no : Nat} {s : Stt} {w : World} {r : Rst} {code : Int} (hl : Laid w) (hr : ReadsF w Ap p) (hs : ReadsS w s A Ao) (hc : s.frames.length ≤ c) (e1 : p.length = np) (e2 : s.frames.length = nf) (e3 : s.out.length = no) (h1 : goR p s = r) (h2 : goC p s = code) :
    Calls Tryd.prog 33 #[.agg #[.slice Ap np cp], .agg #[.slice A nf c, .int .i64 s.fuel, .slice Ao no co, .int .i64 s.done, .int .i64 s.value]] w (EvalN r r.out.length code w) := by
  subst e1 e2 e3 h1 h2
  exact (go_any p Ap A Ao cp c co s w hl hr hs hc).mono fun e w' h => h.n rfl
/-- The plain law. -/
theorem steps_law {p : List Fn} {s : Stt} (h : stateB p s = true) : goC p (stepS p s) = 0 ∧ goR p (stepS p s) = goR p s ∧ goC p s = 0 ∧ stepC p s = 0 := by
  obtain ⟨e1, e2⟩ := stepY h
  obtain ⟨e3, e4⟩ := goY h
  have h2 : stateB p (stepN p s) = true := by
    unfold stepN
    split
    · exact once_state h (by assumption)
    · exact h
  obtain ⟨e5, e6⟩ := goY h2
  have h0 : 0 ≤ s.fuel := by
    unfold stateB at h
    simp only [Bool.and_eq_true, decide_eq_true_eq] at h
    exact h.1.1.1.1.2
  rw [e1, e5, e3, endS_stepN h0]
  exact ⟨e6, rfl, e4, e2⟩
set_option maxRecDepth 100000 in
set_option maxHeartbeats 8000000 in
theorem evalSteps_yes (A : Option Addr) (c : Nat) (p : List Fn) (C : Option Addr) (k : Nat) (Co : Option Addr) (ko : Nat) (s : Stt) (W : World) (hl : Laid W) (hr : ReadsF W A p) (_hz : Fits p) (hs : ReadsS W s C Co ∧ s.frames.length ≤ k) (_hzs : FitS s) :
    Calls Tryd.prog 11 #[.agg #[.slice A p.length c], .agg #[.slice C s.frames.length k, .int .i64 s.fuel, .slice Co s.out.length ko, .int .i64 s.done, .int .i64 s.value]] W (Ret (.bool true) W) := by
  obtain ⟨hs, hk⟩ := hs
  obtain ⟨w1, hw1⟩ : ∃ w1, W.alloc (.cells #[.slice A p.length c] 24) = w1 := ⟨_, rfl⟩
  obtain ⟨w2, hw2⟩ : ∃ w2, w1.alloc (.cells #[.slice C s.frames.length k, .int .i64 s.fuel, .slice Co s.out.length ko, .int .i64 s.done, .int .i64 s.value] 74) = w2 := ⟨_, rfl⟩
  have b1 : Below W.heap.size W w1 := hw1 ▸ below_alloc (Below.refl _ _) _
  have b2 : Below w1.heap.size w1 w2 := hw2 ▸ below_alloc (Below.refl _ _) _
  have b02 := below_trans b1 b2
  have P := Lib.hid ((hw1 ▸ RowAt.new _ _ W : RowAt 24 W.heap.size [.slice A p.length c] w1).below b2)
  have S := Lib.hid (hw2 ▸ RowAt.new _ _ w1 : RowAt 74 w1.heap.size [.slice C s.frames.length k, .int .i64 s.fuel, .slice Co s.out.length ko, .int .i64 s.done, .int .i64 s.value] w2)
  have HA := Lib.hid (awake8_any w2 (hl.below b02))
  have RF := Lib.hid (hr.below b02)
  have RS := Lib.hid (hs.below b02)
  have BB := Lib.hid b02
  have HL := Lib.hid hl
  have HKK := Lib.hid hk
  clear hl hr hs hk b1 b2 b02
  go_enter Tryd.func11, Tryd.ntmps11
  go_wp2_with fail
  (with_reducible refine HA.out.mono ?_)
  rintro e w3 ⟨rfl, hB3⟩
  replace P := Lib.hid (P.out.below hB3)
  replace S := Lib.hid (S.out.below hB3)
  replace RF := Lib.hid (RF.out.below hB3)
  replace RS := Lib.hid (RS.out.below hB3)
  replace BB := Lib.hid (below_trans BB.out hB3)
  clear hB3 hw1 hw2 HA
  have p0 := row_cell P.out
  have s0 := S.out.cell (k := 0) (by simp)
  have s1 := S.out.cell (k := 1) (by simp)
  have s2 := S.out.cell (k := 2) (by simp)
  have s3 := S.out.cell (k := 3) (by simp)
  have s4 := S.out.cell (k := 4) (by simp)
  simp only [List.getElem_cons_zero, List.getElem_cons_succ] at s0 s1 s2 s3 s4
  by_cases hf : (5000 : Int) < s.fuel
  · have d0 : decide ((5000 : Int) < s.fuel) = true := decide_eq_true hf
    go_wp2_with fail
    go_ret
    exact ⟨rfl, BB.out⟩
  have d0 : decide ((5000 : Int) < s.fuel) = false := decide_eq_false hf
  have H1 := Lib.hid (step_any p A C Co c k ko s w3 (HL.out.below BB.out) RF.out RS.out HKK.out)
  unfold sttV at H1
  go_wp2_with fail
  (with_reducible refine H1.out.mono ?_)
  rintro e w4 ⟨fv, ov, vss, rfl, hO, hB4⟩
  clear hf d0 H1 s0 s1 s2 s3 s4 p0
  obtain ⟨F, fc, O, oc, rfl, rfl, hfc, hRS⟩ := hO.reads
  obtain ⟨t, ht⟩ : ∃ t, stepS p s = t := ⟨_, rfl⟩
  obtain ⟨tc, htc⟩ : ∃ tc, stepC p s = tc := ⟨_, rfl⟩
  rw [ht] at hO hRS hfc
  rw [ht, htc]
  unfold sttV
  obtain ⟨w5, hw5⟩ : ∃ w5, w4.alloc (.cells #[.slice F t.frames.length fc, .int .i64 t.fuel, .slice O t.out.length oc, .int .i64 t.done, .int .i64 t.value] 74) = w5 := ⟨_, rfl⟩
  have b5 : Below w4.heap.size w4 w5 := hw5 ▸ below_alloc (Below.refl _ _) _
  have b45 := below_trans hB4 b5
  have T := Lib.hid (hw5 ▸ RowAt.new _ _ w4 : RowAt 74 w4.heap.size [.slice F t.frames.length fc, .int .i64 t.fuel, .slice O t.out.length oc, .int .i64 t.done, .int .i64 t.value] w5)
  have RT := Lib.hid (hRS.below b5)
  replace P := Lib.hid (P.out.below b45)
  replace S := Lib.hid (S.out.below b45)
  replace RF := Lib.hid (RF.out.below b45)
  replace RS := Lib.hid (RS.out.below b45)
  replace BB := Lib.hid (below_trans BB.out b45)
  have HT := Lib.hid (And.intro ht htc)
  have HFC := Lib.hid hfc
  clear b5 b45 hO hRS hB4 ht htc hfc
  have p0 := row_cell P.out
  have s0 := S.out.cell (k := 0) (by simp)
  have s1 := S.out.cell (k := 1) (by simp)
  have s2 := S.out.cell (k := 2) (by simp)
  have s3 := S.out.cell (k := 3) (by simp)
  have s4 := S.out.cell (k := 4) (by simp)
  simp only [List.getElem_cons_zero, List.getElem_cons_succ] at s0 s1 s2 s3 s4
  obtain ⟨R1, hR1⟩ : ∃ R1, goR p s = R1 := ⟨_, rfl⟩
  obtain ⟨C1, hC1⟩ : ∃ C1, goC p s = C1 := ⟨_, rfl⟩
  have H2 := Lib.hid (go_m (cp := c) (co := ko) (HL.out.below BB.out) RF.out RS.out HKK.out rfl rfl rfl hR1 hC1)
  have HR1 := Lib.hid (And.intro hR1 hC1)
  clear hR1 hC1
  go_wp2_with fail
  (with_reducible refine H2.out.mono ?_)
  rintro e w6 ⟨A6, c6, rfl, hc6, hR6, hB6⟩
  obtain ⟨w7, hw7⟩ : ∃ w7, w6.alloc (.cells #[.int .i64 R1.done, .int .i64 R1.value, .slice A6 R1.out.length c6, .int .i64 R1.fuel] 61) = w7 := ⟨_, rfl⟩
  have b7 : Below w6.heap.size w6 w7 := hw7 ▸ below_alloc (Below.refl _ _) _
  have b67 := below_trans hB6 b7
  have X := Lib.hid (hw7 ▸ RowAt.new _ _ w6 : RowAt 61 w6.heap.size [.int .i64 R1.done, .int .i64 R1.value, .slice A6 R1.out.length c6, .int .i64 R1.fuel] w7)
  have RO := Lib.hid (hR6.below b7)
  replace P := Lib.hid (P.out.below b67)
  replace T := Lib.hid (T.out.below b67)
  replace RF := Lib.hid (RF.out.below b67)
  replace RT := Lib.hid (RT.out.below b67)
  replace BB := Lib.hid (below_trans BB.out b67)
  clear hw5 hc6 hR6 hB6 b7 b67 H2 p0 s0 s1 s2 s3 s4
  have p0 := row_cell P.out
  have s0 := T.out.cell (k := 0) (by simp)
  have s1 := T.out.cell (k := 1) (by simp)
  have s2 := T.out.cell (k := 2) (by simp)
  have s3 := T.out.cell (k := 3) (by simp)
  have s4 := T.out.cell (k := 4) (by simp)
  simp only [List.getElem_cons_zero, List.getElem_cons_succ] at s0 s1 s2 s3 s4
  obtain ⟨R2, hR2⟩ : ∃ R2, goR p t = R2 := ⟨_, rfl⟩
  obtain ⟨C2, hC2⟩ : ∃ C2, goC p t = C2 := ⟨_, rfl⟩
  have H3 := Lib.hid (go_m (cp := c) (co := oc) (HL.out.below BB.out) RF.out RT.out HFC.out rfl rfl rfl hR2 hC2)
  have HR2 := Lib.hid (And.intro hR2 hC2)
  clear hR2 hC2
  go_wp2_with fail
  (with_reducible refine H3.out.mono ?_)
  rintro e w8 ⟨A8, c8, rfl, hc8, hR8, hB8⟩
  obtain ⟨w9, hw9⟩ : ∃ w9, w8.alloc (.cells #[.int .i64 R2.done, .int .i64 R2.value, .slice A8 R2.out.length c8, .int .i64 R2.fuel] 61) = w9 := ⟨_, rfl⟩
  have b9 : Below w8.heap.size w8 w9 := hw9 ▸ below_alloc (Below.refl _ _) _
  have b89 := below_trans hB8 b9
  have Y := Lib.hid (hw9 ▸ RowAt.new _ _ w8 : RowAt 61 w8.heap.size [.int .i64 R2.done, .int .i64 R2.value, .slice A8 R2.out.length c8, .int .i64 R2.fuel] w9)
  replace X := Lib.hid (X.out.below b89)
  replace RO := Lib.hid (RO.out.below b89)
  have RO2 := Lib.hid (hR8.below b9)
  replace BB := Lib.hid (below_trans BB.out b89)
  have HNUM := Lib.hid (fun (n : Int) (W : World) => numL_any n W)
  clear hw7 hc8 hR8 hB8 b9 b89 H3 p0 s0 s1 s2 s3 s4
  cases hb : stateB p s with
  | false =>
    have e1 : tc = 700 := by rw [← HT.out.2]; exact (stepNo hb).2
    have e2 : C1 = 800 := by rw [← HR1.out.2]; exact (goNo hb).2
    subst e1 e2
    clear hb
    go_wp2_with (first | (go_at_call 15; (with_reducible refine (HNUM.out _ _).mono ?_); rintro e wn ⟨rfl, rfl⟩) | fail)
    go_ret
    exact ⟨rfl, BB.out⟩
  | true =>
    obtain ⟨l1, l2, l3, l4⟩ := steps_law hb
    rw [HT.out.1] at l1 l2
    rw [HR2.out.2] at l1
    rw [HR2.out.1, HR1.out.1] at l2
    rw [HR1.out.2] at l3
    rw [HT.out.2] at l4
    subst l1 l2 l3 l4
    have x0 := X.out.cell (k := 0) (by simp)
    have x1 := X.out.cell (k := 1) (by simp)
    have x2 := X.out.cell (k := 2) (by simp)
    have x3 := X.out.cell (k := 3) (by simp)
    have y0 := Y.out.cell (k := 0) (by simp)
    have y1 := Y.out.cell (k := 1) (by simp)
    have y2 := Y.out.cell (k := 2) (by simp)
    have y3 := Y.out.cell (k := 3) (by simp)
    simp only [List.getElem_cons_zero, List.getElem_cons_succ] at x0 x1 x2 x3 y0 y1 y2 y3
    have HS := Lib.hid (same_n (x := R2) (y := R2) (c := c6) (d := c8) (b := true) RO.out RO2.out rfl rfl (by simp))
    clear hb
    go_wp2_with (first | (go_at_call 15; (with_reducible refine (HNUM.out _ _).mono ?_); rintro e wn ⟨rfl, rfl⟩) | (go_at_call 28; (with_reducible refine HS.out.mono ?_); rintro e wa ⟨rfl, hBa⟩; have HBA := Lib.hid hBa; clear hBa) | fail)
    go_ret
    exact ⟨rfl, below_trans BB.out HBA.out⟩
end Go.Proofs.YtpfgklkdldkajaaDoor
