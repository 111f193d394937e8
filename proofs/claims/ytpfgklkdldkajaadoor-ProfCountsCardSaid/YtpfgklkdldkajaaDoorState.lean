/- 'frame.May', 'frame.State' answer what the plain definitions say. Conditions: the program, the frame, the state lie in memory as they are said; errors.errorType is laid. -/
import Derived.Test.YtpfgklkdldkajaaDoorRuns
namespace Go.Proofs.YtpfgklkdldkajaaDoor
open Go.RowKit

theorem frm_new (f : Frm) (A1 A2 : Option Addr) (c1 c2 : Nat) (w : World) (h1 : ReadsI w A1 f.locals) (h2 : ReadsI w A2 f.stack) :
    FrmAt (w.alloc (.cells #[.int .i64 f.fn, .int .i64 f.pc, .slice A1 f.locals.length c1, .slice A2 f.stack.length c2] 149)) ⟨w.heap.size, 0, none⟩ f := by
  have hb := below_alloc (Below.refl w.heap.size w) (.cells #[.int .i64 f.fn, .int .i64 f.pc, .slice A1 f.locals.length c1, .slice A2 f.stack.length c2] 149)
  have hn := blk_new w (.cells #[.int .i64 f.fn, .int .i64 f.pc, .slice A1 f.locals.length c1, .slice A2 f.stack.length c2] 149)
  exact ⟨(blk_cell hn 0).trans rfl, (blk_cell hn 1).trans rfl, ⟨A1, c1, (blk_cell hn 2).trans rfl, h1.below hb⟩, A2, c2, (blk_cell hn 3).trans rfl, h2.below hb⟩
theorem ret_tail {b : Bool} {v : Value} {w w1 w2 : World} (e : v = .bool b) (h : Below w.heap.size w w1) (k : Below w1.heap.size w1 w2) : Ret (.bool b) w (.returned v) w2 := ⟨by rw [e], below_trans h k⟩
theorem dec_false {P : Prop} [Decidable P] (h : ¬ P) : decide P = false := decide_eq_false h
set_option maxRecDepth 100000 in
set_option maxHeartbeats 4000000 in
theorem state_any (p : List Fn) (Ap A Ao : Option Addr) (cp c co : Nat) (s : Stt) (w : World) (hl : Laid w) (hr : ReadsF w Ap p) (hf : ReadsFr w A s.frames) (hc : s.frames.length ≤ c) (ho : ReadsI w Ao s.out) :
    Calls Tryd.prog 58 #[.agg #[.slice Ap p.length cp], sttV s (.slice A s.frames.length c) (.slice Ao s.out.length co)] w (Ret (.bool (stateB p s)) w) := by
  obtain ⟨fs, fuel, out, done, value⟩ := s
  unfold sttV
  simp only at hf hc ho ⊢
  obtain ⟨w1, hw1⟩ : ∃ w1, w.alloc (.cells #[.slice Ap p.length cp] 24) = w1 := ⟨_, rfl⟩
  obtain ⟨w2, hw2⟩ : ∃ w2, w1.alloc (.cells #[.slice A fs.length c, .int .i64 fuel, .slice Ao out.length co, .int .i64 done, .int .i64 value] 74) = w2 := ⟨_, rfl⟩
  have b1 : Below w.heap.size w w1 := hw1 ▸ below_alloc (Below.refl _ _) _
  have b2 : Below w1.heap.size w1 w2 := hw2 ▸ below_alloc (Below.refl _ _) _
  have p1 : w1.cell? ⟨w.heap.size, 0, none⟩ = some (.slice Ap p.length cp) := hw1 ▸ (blk_cell (blk_new w _) 0).trans rfl
  have hR : RowAt 74 w1.heap.size [.slice A fs.length c, .int .i64 fuel, .slice Ao out.length co, .int .i64 done, .int .i64 value] w2 := hw2 ▸ RowAt.new _ _ w1
  have B2 := Lib.hid (below_trans b1 b2)
  have HR := Lib.hid hR
  have HFS := Lib.hid (hf.below (below_trans b1 b2))
  have HOU := Lib.hid (ho.below (below_trans b1 b2))
  have hno := ho.1
  have hnf := hf.1
  have HO := Lib.hid (open_any ⟨w.heap.size, 0, none⟩ p Ap cp w2 (hl.below B2.out) (cell_below b2 p1) (hr.below B2.out))
  obtain ⟨vf, hvf⟩ : ∃ vf, verifyOf p = vf := ⟨_, rfl⟩
  have HVF := Lib.hid hvf
  unfold OpenE at HO
  rw [hvf] at HO
  clear hvf b1 b2 p1 hR hl hr hf ho
  by_cases hv : vf = 0
  · have dv : (vf == 0) = true := by simpa using hv
    have HV := Lib.hid hv
    rw [dv] at HO
    clear hv dv
    go_enter Tryd.func58, Tryd.ntmps58
    go_wp2_with fail
    refine HO.out.mono ?_
    rintro e w3 ⟨B, rfl, hB, hbk⟩
    obtain ⟨H, ch, hbk⟩ := hbk HV.out
    have B3 := Lib.hid (below_trans B2.out hB)
    have hR := HR.out.below hB
    have k0 := hR.cell (k := 0) (by simp)
    have k1 := hR.cell (k := 1) (by simp)
    have k2 := hR.cell (k := 2) (by simp)
    have k3 := hR.cell (k := 3) (by simp)
    have k4 := hR.cell (k := 4) (by simp)
    simp only [List.getElem_cons_succ, List.getElem_cons_zero] at k0 k1 k2 k3 k4
    have HM := Lib.hid (runs_any B ⟨w.heap.size, 0, none⟩ p Ap H A cp ch c fs w3 (HVF.out.trans HV.out) hbk (HFS.out.below hB) hc)
    have HA := Lib.hid (wrapAll_any Ao co out w3 (HOU.out.below hB))
    have HI := Lib.hid (is_any value w3)
    have HE := Lib.hid (show stateB p ⟨fs, fuel, out, done, value⟩ = (decide (0 ≤ fuel) && decide (fuel ≤ 100000) && decide ((out.length : Int) ≤ 100000 - fuel) && out.all isNum &&
        (if done = 0 then decide (value = 0) && runsB p fs else decide (0 < done) && decide (done ≤ 4) && (decide (fs.length = 0) && (if done = 1 then isNum value else decide (value = 0))))) by
      unfold stateB overB; rw [HVF.out, HV.out]; rfl)
    obtain ⟨xo, exo⟩ : ∃ xo, out.all isNum = xo := ⟨_, rfl⟩
    obtain ⟨xr, exr⟩ : ∃ xr, runsB p fs = xr := ⟨_, rfl⟩
    obtain ⟨xv, exv⟩ : ∃ xv, isNum value = xv := ⟨_, rfl⟩
    rw [exo] at HA HE
    rw [exr] at HM HE
    rw [exv] at HI HE
    clear exo exr exv hbk hB hw1 hw2 HO hR HR
    go_wp2_with (first | (go_at_call 47; refine HA.out.mono ?_; rintro e w' ⟨rfl, rfl⟩) | (go_at_call 75; refine HI.out.mono ?_; rintro e w' ⟨rfl, rfl⟩) | (go_at_call 86; refine HM.out.mono ?_; rintro e w4 ⟨rfl, n, rfl⟩))
    all_goals go_ret
    all_goals refine ret_tail ?_ B3.out (by first | exact Below.refl _ _ | exact below_drew (Below.refl _ _) _)
    all_goals rw [HE.out]
    all_goals clear HE HM HA HI k0 k1 k2 k3 k4 B3 B2 HFS HOU HVF HV
    all_goals first | (simp_all; done) | (simp_all; omega) | (cases xo <;> first | (simp_all; done) | (simp_all; omega) | (simp_all [beq_dec]; done) | (exfalso; simp_all; omega))
  · have dv : (vf == 0) = false := by simpa using hv
    have HV := Lib.hid hv
    rw [dv] at HO
    clear hv dv
    go_enter Tryd.func58, Tryd.ntmps58
    go_wp2_with fail
    refine HO.out.mono ?_
    rintro e w3 ⟨B, rfl, hB, -⟩
    have B3 := Lib.hid (below_trans B2.out hB)
    clear hB hw1 hw2 HO HR
    go_wp2_with fail
    go_ret
    exact ret_tail (by unfold stateB; rw [HVF.out, decide_eq_false HV.out]; rfl) B3.out (Below.refl _ _)
end Go.Proofs.YtpfgklkdldkajaaDoor
