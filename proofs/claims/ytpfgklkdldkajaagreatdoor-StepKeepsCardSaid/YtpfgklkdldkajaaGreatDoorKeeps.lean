/- StepKeeps: the walk. Conditions: errors.errorType is laid; the program, the state lie in memory. -/
import Derived.Test.YtpfgklkdldkajaaGreatDoorKeepsLaw
import Derived.Test.YtpfgklkdldkajaaGreatDoorLAw7
namespace Go.Proofs.YtpfgklkdldkajaaGreatDoor
open Go.RowKit

set_option maxRecDepth 100000 in
set_option maxHeartbeats 8000000 in
theorem stepKeeps_yes (A : Option Addr) (c : Nat) (p : List Fn) (C : Option Addr) (k : Nat) (Co : Option Addr) (ko : Nat) (s : Stt) (W : World) (hl : Laid W) (hr : ReadsF W A p) (_hz : Fits p) (hs : ReadsS W s C Co ∧ s.frames.length ≤ k) (_hzs : FitS s) :
    Calls Tryz.prog 5 #[.agg #[.slice A p.length c], .agg #[.slice C s.frames.length k, .int .i64 s.fuel, .slice Co s.out.length ko, .int .i64 s.done, .int .i64 s.value]] W (Ret (.bool true) W) := by
  obtain ⟨hs, hk⟩ := hs
  obtain ⟨w1, hw1⟩ : ∃ w1, W.alloc (.cells #[.slice A p.length c] 24) = w1 := ⟨_, rfl⟩
  obtain ⟨w2, hw2⟩ : ∃ w2, w1.alloc (.cells #[.slice C s.frames.length k, .int .i64 s.fuel, .slice Co s.out.length ko, .int .i64 s.done, .int .i64 s.value] 47) = w2 := ⟨_, rfl⟩
  have b1 : Below W.heap.size W w1 := hw1 ▸ below_alloc (Below.refl _ _) _
  have b2 : Below w1.heap.size w1 w2 := hw2 ▸ below_alloc (Below.refl _ _) _
  have b02 := below_trans b1 b2
  have P := Lib.hid ((hw1 ▸ RowAt.new _ _ W : RowAt 24 W.heap.size [.slice A p.length c] w1).below b2)
  have S := Lib.hid (hw2 ▸ RowAt.new _ _ w1 : RowAt 47 w1.heap.size [.slice C s.frames.length k, .int .i64 s.fuel, .slice Co s.out.length ko, .int .i64 s.done, .int .i64 s.value] w2)
  have HA := Lib.hid (awake7_any w2 (hl.below b02))
  have RF := Lib.hid (hr.below b02)
  have RS := Lib.hid (hs.below b02)
  have BB := Lib.hid b02
  have HL := Lib.hid hl
  have HKK := Lib.hid hk
  clear hl hr hs hk b1 b2 b02
  go_enter Tryz.func5, Tryz.ntmps5
  go_wp2_with fail
  (with_reducible refine HA.out.mono ?_)
  rintro e w3 ⟨rfl, hB3⟩
  replace P := Lib.hid (P.out.below hB3)
  replace S := Lib.hid (S.out.below hB3)
  replace RF := Lib.hid (RF.out.below hB3)
  replace RS := Lib.hid (RS.out.below hB3)
  replace BB := Lib.hid (below_trans BB.out hB3)
  clear hB3 hw1 hw2 HA
  have p0 := row_cell P.out
  have s0 := S.out.cell (k := 0) (by simp)
  have s1 := S.out.cell (k := 1) (by simp)
  have s2 := S.out.cell (k := 2) (by simp)
  have s3 := S.out.cell (k := 3) (by simp)
  have s4 := S.out.cell (k := 4) (by simp)
  simp only [List.getElem_cons_zero, List.getElem_cons_succ] at s0 s1 s2 s3 s4
  obtain ⟨t, ht⟩ : ∃ t, stepS p s = t := ⟨_, rfl⟩
  obtain ⟨tc, htc⟩ : ∃ tc, stepC p s = tc := ⟨_, rfl⟩
  have H1 := Lib.hid (step_m (cp := c) (co := ko) (HL.out.below BB.out) RF.out RS.out HKK.out rfl rfl rfl rfl rfl rfl ht htc rfl rfl rfl rfl rfl)
  have HT := Lib.hid (And.intro ht htc)
  clear ht htc
  go_wp2_with fail
  (with_reducible refine H1.out.mono ?_)
  rintro e w4 ⟨F, fc, O, oc, rfl, hfc, hoc, hRS, hB4⟩
  clear H1 s0 s1 s2 s3 s4 p0
  obtain ⟨w5, hw5⟩ : ∃ w5, w4.alloc (.cells #[.slice F t.frames.length fc, .int .i64 t.fuel, .slice O t.out.length oc, .int .i64 t.done, .int .i64 t.value] 47) = w5 := ⟨_, rfl⟩
  have b5 : Below w4.heap.size w4 w5 := hw5 ▸ below_alloc (Below.refl _ _) _
  have b45 := below_trans hB4 b5
  have T := Lib.hid (hw5 ▸ RowAt.new _ _ w4 : RowAt 47 w4.heap.size [.slice F t.frames.length fc, .int .i64 t.fuel, .slice O t.out.length oc, .int .i64 t.done, .int .i64 t.value] w5)
  have RT := Lib.hid (hRS.below b5)
  replace P := Lib.hid (P.out.below b45)
  replace S := Lib.hid (S.out.below b45)
  replace RF := Lib.hid (RF.out.below b45)
  replace RS := Lib.hid (RS.out.below b45)
  replace BB := Lib.hid (below_trans BB.out b45)
  have HFC := Lib.hid (And.intro hfc hoc)
  have HNUM := Lib.hid (fun (n : Int) (W : World) => numL_any n W)
  clear b5 b45 hRS hB4 hfc hoc
  have p0 := row_cell P.out
  have s0 := S.out.cell (k := 0) (by simp)
  have s1 := S.out.cell (k := 1) (by simp)
  have s2 := S.out.cell (k := 2) (by simp)
  have s3 := S.out.cell (k := 3) (by simp)
  have s4 := S.out.cell (k := 4) (by simp)
  simp only [List.getElem_cons_zero, List.getElem_cons_succ] at s0 s1 s2 s3 s4
  have t0 := T.out.cell (k := 0) (by simp)
  have t1 := T.out.cell (k := 1) (by simp)
  have t2 := T.out.cell (k := 2) (by simp)
  have t3 := T.out.cell (k := 3) (by simp)
  have t4 := T.out.cell (k := 4) (by simp)
  simp only [List.getElem_cons_zero, List.getElem_cons_succ] at t0 t1 t2 t3 t4
  cases hb : stateB p s with
  | false =>
    have e1 : tc = 700 := by rw [← HT.out.2]; exact (stepNo hb).2
    have e2 : t = zeroS := by rw [← HT.out.1]; exact (stepNo hb).1
    subst e1 e2
    have HS := state_any p A C Co c k ko s w5 (HL.out.below BB.out) RF.out RS.out.fr HKK.out RS.out.out
    unfold sttV at HS
    rw [hb] at HS
    replace HS := Lib.hid HS
    clear hb
    go_wp2_with (first | (go_at_call 19; (with_reducible refine (HNUM.out _ _).mono ?_); rintro e wn ⟨rfl, rfl⟩) | fail)
    (with_reducible refine HS.out.mono ?_)
    rintro e w6 ⟨rfl, hB6⟩
    have x0 := cell_below hB6 t0
    have x1 := cell_below hB6 t1
    have x2 := cell_below hB6 t2
    have x3 := cell_below hB6 t3
    have x4 := cell_below hB6 t4
    have HZ := Lib.hid (same_s (x := zeroS) (y := zeroS) (c := fc) (co := oc) (A := F) (Ao := O) (d := 0) (dO := 0) (B := none) (Bo := none) (w := w6) (reads_s0 rfl rfl) (reads_s0 rfl rfl) rfl rfl (k := 0) rfl (j := 0) rfl rfl rfl rfl (f2 := 0) rfl (d2 := 0) rfl (v2 := 0) rfl (b := true) (by simp))
    replace BB := Lib.hid (below_trans BB.out hB6)
    clear hB6 HS s0 s1 s2 s3 s4 t0 t1 t2 t3 t4 p0 hw5
    go_wp2_with fail
    (with_reducible refine HZ.out.mono ?_)
    rintro e w7 ⟨rfl, hB7⟩
    replace BB := Lib.hid (below_trans BB.out hB7)
    clear hB7
    go_wp2_with fail
    go_ret
    exact ⟨rfl, BB.out⟩
  | true =>
    obtain ⟨l1, l2, l3, l4, l5, l6, l7, l8⟩ := keeps_law hb
    have e1 : tc = 0 := by rw [← HT.out.2]; exact (stepY hb).2
    have e2 : stepN p s = t := by rw [← HT.out.1]; exact (stepY hb).1.symm
    rw [e2] at l1 l2 l3 l8
    subst e1
    have HS := state_any p A F O c fc oc t w5 (HL.out.below BB.out) RF.out RT.out.fr HFC.out.1 RT.out.out
    unfold sttV at HS
    rw [l1] at HS
    replace HS := Lib.hid HS
    have L2 := Lib.hid l2
    have L8 := Lib.hid l8
    have L5 := Lib.hid (And.intro l4 l5)
    have L6 := Lib.hid (And.intro l6 l7)
    have w64 : wrap64 ((s.out.length : Int) + 1) = s.out.length + 1 := by unfold wrap64; omega
    have g64 : decide ((s.out.length : Int) + 1 < (t.out.length : Int)) = false := decide_eq_false (by omega)
    have v64 : wrap64 ((s.frames.length : Int) + 1) = s.frames.length + 1 := by unfold wrap64; omega
    have u64 : wrap64 (s.fuel - 1) = s.fuel - 1 := by unfold wrap64; omega
    clear hb l1 l2 l4 l5 l6 l7 l8 e2
    go_wp2_with (first | (go_at_call 19; (with_reducible refine (HNUM.out _ _).mono ?_); rintro e wn ⟨rfl, rfl⟩) | fail)
    (with_reducible refine HS.out.mono ?_)
    rintro e w6 ⟨rfl, hB6⟩
    have P6 := Lib.hid (P.out.below hB6)
    have S6 := Lib.hid (S.out.below hB6)
    have T6 := Lib.hid (T.out.below hB6)
    have x2 := S6.out.cell (k := 2) (by simp)
    have y2 := T6.out.cell (k := 2) (by simp)
    simp only [List.getElem_cons_zero, List.getElem_cons_succ] at x2 y2
    have HBG := begins_any s.out t.out Co O ko oc w6 (RS.out.out.below hB6) (RT.out.out.below hB6) HFC.out.2
    rw [L2.out] at HBG
    replace HBG := Lib.hid HBG
    have RS6 := Lib.hid (RS.out.below hB6)
    have RT6 := Lib.hid (RT.out.below hB6)
    replace BB := Lib.hid (below_trans BB.out hB6)
    clear hB6 HS s0 s1 s2 s3 s4 t0 t1 t2 t3 t4 p0 hw5 P S T RS RT L2
    go_wp2_with fail
    (with_reducible refine HBG.out.mono ?_)
    rintro e w7 ⟨rfl, hB7⟩
    replace BB := Lib.hid (below_trans BB.out hB7)
    replace S6 := Lib.hid (S6.out.below hB7)
    replace T6 := Lib.hid (T6.out.below hB7)
    replace RS6 := Lib.hid (RS6.out.below hB7)
    replace RT6 := Lib.hid (RT6.out.below hB7)
    clear hB7 HBG x2 y2
    have s0 := S6.out.cell (k := 0) (by simp)
    have s1 := S6.out.cell (k := 1) (by simp)
    have s2 := S6.out.cell (k := 2) (by simp)
    have s3 := S6.out.cell (k := 3) (by simp)
    have s4 := S6.out.cell (k := 4) (by simp)
    simp only [List.getElem_cons_zero, List.getElem_cons_succ] at s0 s1 s2 s3 s4
    have t0 := T6.out.cell (k := 0) (by simp)
    have t1 := T6.out.cell (k := 1) (by simp)
    have t2 := T6.out.cell (k := 2) (by simp)
    have t3 := T6.out.cell (k := 3) (by simp)
    have t4 := T6.out.cell (k := 4) (by simp)
    simp only [List.getElem_cons_zero, List.getElem_cons_succ] at t0 t1 t2 t3 t4
    rcases L8.out with ⟨hd, he⟩ | ⟨hd, hf, h1, h2, h3⟩ | ⟨hd, hf, h1, h2, h3⟩
    · subst he
      have d0 : (t.done != 0) = true := by simpa using hd
      have HZ := Lib.hid (same_s (x := t) (y := t) (c := k) (co := ko) (d := fc) (dO := oc) (w := w7) RS6.out RT6.out rfl rfl rfl rfl rfl rfl rfl rfl rfl rfl (b := true) (by simp))
      clear hd
      go_wp2_with fail
      (with_reducible refine HZ.out.mono ?_)
      rintro e w8 ⟨rfl, hB8⟩
      replace BB := Lib.hid (below_trans BB.out hB8)
      clear hB8
      go_wp2_with fail
      go_ret
      exact ⟨rfl, BB.out⟩
    · have d0 : (s.done != 0) = false := by simpa using hd
      have d1 : (s.fuel == 0) = true := by simpa using hf
      have d2 : (t.done == 4) = true := by simpa using h1
      have d3 : (t.fuel == 0) = true := by simpa using h2
      have d4 : ((t.out.length : Int) == (s.out.length : Int)) = true := by rw [h3]; simp
      clear hd hf h1 h2 h3
      go_wp2_with fail
      go_ret
      exact ⟨rfl, BB.out⟩
    · have d0 : (s.done != 0) = false := by simpa using hd
      have d1 : (s.fuel == 0) = false := by simpa using hf
      have d2 : (t.done != 4) = true := by simpa using h3
      have d3 : (t.fuel == s.fuel - 1) = true := by simpa using h1
      have d4 : decide ((t.frames.length : Int) ≤ (s.frames.length : Int) + 1) = true := decide_eq_true (by omega)
      clear hd hf h1 h3
      go_wp2_with fail
      go_ret
      exact ⟨rfl, BB.out⟩
end Go.Proofs.YtpfgklkdldkajaaGreatDoor
