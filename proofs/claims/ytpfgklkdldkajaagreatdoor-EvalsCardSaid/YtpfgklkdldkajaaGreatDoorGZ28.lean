/- The document's 'StateMay' answers what the plain definition says. Conditions: the program, the state lie in memory as they are said. Lists of ints, frames, states written over. Conditions: they are the call's own. 'CopyInts', 'LendInts', 'KeptInts' of the statements. Conditions: the list lies in memory; it is no longer than the reach. -/
import Derived.Test.YtpfgklkdldkajaaGreatDoorGZ27
import Derived.Test.YtpfgklkdldkajaaGreatDoorGZ20
import Derived.Test.YtpfgklkdldkajaaGreatDoorGZ15
namespace Go.Proofs.YtpfgklkdldkajaaGreatDoor
open Go.RowKit

theorem numbersB_self (xs : List Int) : numbersB xs xs.length = xs.all isNum := by unfold numbersB; simp
set_option maxRecDepth 100000 in
set_option maxHeartbeats 8000000 in
theorem rstate_any (p : List Fn) (Ap A Ao : Option Addr) (cp c co : Nat) (s : Stt) (w : World) (hr : ReadsF w Ap p) (hf : ReadsFr w A s.frames) (ho : ReadsI w Ao s.out) :
    Calls Tryz.prog 63 #[.agg #[.slice Ap p.length cp], sttV s (.slice A s.frames.length c) (.slice Ao s.out.length co)] w (Ret (.bool (stateB p s)) w) := by
  obtain ⟨fs, fuel, out, done, value⟩ := s
  unfold sttV
  simp only at hf ho ⊢
  obtain ⟨w1, hw1⟩ : ∃ w1, w.alloc (.cells #[.slice Ap p.length cp] 24) = w1 := ⟨_, rfl⟩
  obtain ⟨w2, hw2⟩ : ∃ w2, w1.alloc (.cells #[.slice A fs.length c, .int .i64 fuel, .slice Ao out.length co, .int .i64 done, .int .i64 value] 47) = w2 := ⟨_, rfl⟩
  have b1 : Below w.heap.size w w1 := hw1 ▸ below_alloc (Below.refl _ _) _
  have b2 : Below w1.heap.size w1 w2 := hw2 ▸ below_alloc (Below.refl _ _) _
  have R1 := Lib.hid ((hw1 ▸ RowAt.new _ _ w : RowAt 24 w.heap.size [.slice Ap p.length cp] w1).below b2)
  have R2 := Lib.hid (hw2 ▸ RowAt.new _ _ w1 : RowAt 47 w1.heap.size [.slice A fs.length c, .int .i64 fuel, .slice Ao out.length co, .int .i64 done, .int .i64 value] w2)
  have B2 := Lib.hid (below_trans b1 b2)
  have RP := Lib.hid (hr.below B2.out)
  have RF := Lib.hid (hf.below B2.out)
  have RO := Lib.hid (ho.below B2.out)
  have hno := ho.1
  have hnf := hf.1
  have H := Lib.hid (rverify_any p Ap cp w2 RP.out)
  obtain ⟨vf, hvf⟩ : ∃ vf, verifyOf p = vf := ⟨_, rfl⟩
  have HVF := Lib.hid hvf
  rw [hvf] at H
  have k0 := R1.out.cell (k := 0) (by simp)
  simp only [List.getElem_cons_zero] at k0
  clear hvf b1 b2 hr hf ho
  go_enter Tryz.func63, Tryz.ntmps63
  go_wp2_with fail
  (with_reducible refine H.out.mono ?_)
  rintro e w3 ⟨rfl, hB⟩
  have B3 := Lib.hid (below_trans B2.out hB)
  replace R1 := Lib.hid (R1.out.below hB)
  replace R2 := Lib.hid (R2.out.below hB)
  replace RP := Lib.hid (RP.out.below hB)
  replace RF := Lib.hid (RF.out.below hB)
  replace RO := Lib.hid (RO.out.below hB)
  have l0 := R2.out.cell (k := 0) (by simp)
  have l1 := R2.out.cell (k := 1) (by simp)
  have l2 := R2.out.cell (k := 2) (by simp)
  have l3 := R2.out.cell (k := 3) (by simp)
  have l4 := R2.out.cell (k := 4) (by simp)
  simp only [List.getElem_cons_zero, List.getElem_cons_succ] at l0 l1 l2 l3 l4
  clear H hB hw1 hw2 k0
  by_cases hv : vf = 0
  case neg =>
    have dv : (vf != 0) = true := by simpa using hv
    have HE := Lib.hid (show stateB p ⟨fs, fuel, out, done, value⟩ = false by unfold stateB; rw [HVF.out, decide_eq_false hv]; rfl)
    clear hv
    go_wp2_with fail
    go_ret
    exact ret_tail (by rw [HE.out]; rfl) B3.out (Below.refl _ _)
  have dv : (vf != 0) = false := by simpa using hv
  have HV := Lib.hid (HVF.out.trans hv)
  have HA := Lib.hid (numbers_any Ao co out out.length w3 RO.out)
  rw [numbersB_self] at HA
  have HI := Lib.hid (number_any value w3)
  have HE := Lib.hid (show stateB p ⟨fs, fuel, out, done, value⟩ = (decide (0 ≤ fuel) && decide (fuel ≤ 100000) && decide ((out.length : Int) ≤ 100000 - fuel) && out.all isNum &&
      (if done = 0 then decide (value = 0) && runsB p fs else decide (0 < done) && decide (done ≤ 4) && (decide (fs.length = 0) && (if done = 1 then isNum value else decide (value = 0))))) by
    unfold stateB overB; rw [HV.out]; rfl)
  have HN0 := Lib.hid (show value = 0 → isNum value = true from fun h => by rw [h]; rfl)
  obtain ⟨xo, exo⟩ : ∃ xo, out.all isNum = xo := ⟨_, rfl⟩
  obtain ⟨xv, exv⟩ : ∃ xv, isNum value = xv := ⟨_, rfl⟩
  rw [exo] at HA HE
  rw [exv] at HI HE HN0
  clear hv exo exv
  by_cases hgo : (0 ≤ fuel ∧ fuel ≤ 100000 ∧ (out.length : Int) ≤ 100000 - fuel ∧ xo = true) ∧ done = 0 ∧ value = 0 ∧ 1 ≤ fs.length ∧ fs.length ≤ 12
  case neg =>
    -- all but the walk along the frames
    have HR0 := Lib.hid (show ¬ (1 ≤ fs.length ∧ fs.length ≤ 12) → runsB p fs = false from fun h => by
      unfold runsB
      rw [← Bool.decide_and, decide_eq_false h]; rfl)
    obtain ⟨xr, exr⟩ : ∃ xr, runsB p fs = xr := ⟨_, rfl⟩
    rw [exr] at HE HR0
    have HGO := Lib.hid hgo
    clear exr hgo
    go_wp2_with (first | (go_at_call 50; refine HA.out.mono ?_; rintro e w' ⟨rfl, rfl⟩) | (go_at_call 57; refine HI.out.mono ?_; rintro e w' ⟨rfl, rfl⟩))
    all_goals first
      | (go_ret
         refine ret_tail ?_ B3.out (Below.refl _ _)
         rw [HE.out]
         have hn0 := HN0.out
         have hr0 := HR0.out
         clear HE HN0 HR0 HGO HA HI l0 l1 l2 l3 l4 B3 B2 R1 R2 RP RF RO HV HVF
         first | (simp_all; done) | (simp_all; omega) | (cases xo <;> first | (simp_all; done) | (simp_all; omega) | (simp_all [beq_dec]; done)) | (cases xv <;> first | (simp_all; done) | (simp_all; omega)) | (rcases Classical.em (1 ≤ fs.length ∧ fs.length ≤ 12) with hin | hout; (· exfalso; first | omega | (simp_all; omega)); (· have hx := hr0 hout; clear hr0; simp_all; done)))
      | (exfalso; have h := HGO.out; clear HE HN0 HR0 HGO HA HI l0 l1 l2 l3 l4 B3 B2 R1 R2 RP RF RO HV HVF; first | (simp_all; done) | (simp_all; omega))
  obtain ⟨⟨g1, g2, g3, rfl⟩, rfl, rfl, g4, g5⟩ := hgo
  have HE2 := Lib.hid (show stateB p ⟨fs, fuel, out, 0, 0⟩ = runsB p fs by
    rw [HE.out, decide_eq_true g1, decide_eq_true g2, decide_eq_true g3, if_pos rfl]; rfl)
  obtain ⟨T, hT⟩ : ∃ T, fs.length = T + 1 := ⟨fs.length - 1, by omega⟩
  have e1 : decide (fuel < 0) = false := by simpa using g1
  have e2 : decide (100000 < fuel) = false := by simpa using g2
  have e3 : decide (100000 - fuel < (out.length : Int)) = false := by simpa using g3
  have e4 : decide (T + 1 < 1) = false := by simp
  have e5 : decide (12 < T + 1) = false := by simp; omega
  obtain ⟨ad, eA, hx⟩ := RF.out.at_ (Below.refl _ _) (k := T) (by omega)
  subst eA
  clear hx
  have hT11 : T ≤ 11 := by omega
  rw [hT] at l0 hnf R2
  have HT := Lib.hid hT
  clear hT g4 g5 HE HN0 HI
  go_wp2_with (go_at_call 50; refine HA.out.mono ?_; rintro e w' ⟨rfl, hw⟩; obtain rfl := hw.symm)
  clear e1 e2 e3 e4 e5 g1 g2 g3
  go_loopw [6] (fun i wr => ∃ k : Nat, k ≤ T ∧ i = .int .i64 k ∧ (∀ i (hi : i + 1 < fs.length), i < k → lessB p fs[i] fs[i + 1] = true) ∧ Below w3.heap.size w3 wr) (fun i _ => T - (intOf i).toNat)
  case atStart => exact ⟨0, Nat.zero_le _, rfl, fun _ _ h => absurd h (Nat.not_lt_zero _), Below.refl _ _⟩
  case round =>
    obtain ⟨k, hk, rfl, hvv, hb⟩ := hrel
    have HVV := Lib.hid hvv
    have HB := Lib.hid hb
    have l0 := (R2.out.below hb).cell (k := 0) (by simp)
    simp only [List.getElem_cons_zero] at l0
    clear hvv
    by_cases hlt : k < T
    · have hk0 : k < fs.length := by have := HT.out; omega
      have hk1 : k + 1 < fs.length := by have := HT.out; omega
      obtain ⟨ad', e, hfk⟩ := RF.out.at_ hb hk0
      cases e
      obtain ⟨ad', e, hfl⟩ := RF.out.at_ hb hk1
      cases e
      have g0 := hfl.1
      obtain ⟨f, ef⟩ : ∃ f, fs[k] = f := ⟨_, rfl⟩
      rw [ef] at hfk
      have EF := Lib.hid ef
      obtain ⟨c0, ca1, ⟨A1, c1, ca2, rl⟩, A2, c2, ca3, rs⟩ := hfk
      obtain ⟨wA, hwA⟩ : ∃ wA, wr.alloc (.cells #[.int .i64 f.fn, .int .i64 f.pc, .slice A1 f.locals.length c1, .slice A2 f.stack.length c2] 68) = wA := ⟨_, rfl⟩
      have bA : Below wr.heap.size wr wA := hwA ▸ below_alloc (Below.refl _ _) _
      have rA : RowAt 68 wr.heap.size [.int .i64 f.fn, .int .i64 f.pc, .slice A1 f.locals.length c1, .slice A2 f.stack.length c2] wA := hwA ▸ RowAt.new _ _ wr
      have b3A := below_trans hb bA
      have P1 := R1.out.below b3A
      have P2 := R2.out.below b3A
      have g0A := cell_below bA g0
      have RPA := Lib.hid (RP.out.below b3A)
      have RLA := Lib.hid (rl.below bA)
      have RSA := Lib.hid (rs.below bA)
      have HALL := Lib.hid (show ∀ W', Below wA.heap.size wA W' → W'.cell? ⟨w.heap.size, 0, none⟩ = some (.slice Ap p.length cp) ∧ W'.cell? ⟨w1.heap.size, 0, none⟩ = some (.slice (some ad) (T + 1) c) ∧ W'.cell? ⟨wr.heap.size, 0, none⟩ = some (.int .i64 f.fn) ∧ W'.cell? ⟨wr.heap.size, 1, none⟩ = some (.int .i64 f.pc) ∧ W'.cell? ⟨wr.heap.size, 2, none⟩ = some (.slice A1 f.locals.length c1) ∧ W'.cell? ⟨wr.heap.size, 3, none⟩ = some (.slice A2 f.stack.length c2) ∧ W'.cell? (ad.add ((k + 1) * 4)) = some (.int .i64 fs[k + 1].fn) ∧ Below wA.heap.size wA W' from fun W' hb =>
        ⟨(P1.below hb).cell (k := 0) (by simp), (P2.below hb).cell (k := 0) (by simp), (rA.below hb).cell (k := 0) (by simp), (rA.below hb).cell (k := 1) (by simp), (rA.below hb).cell (k := 2) (by simp), (rA.below hb).cell (k := 3) (by simp), cell_below hb g0A, hb⟩)
      have B3A := Lib.hid b3A
      have HF := Lib.hid (show ∀ (W' : World), Below wA.heap.size wA W' → Calls Tryz.prog 94 #[.agg #[.slice Ap p.length cp], .agg #[.int .i64 f.fn, .int .i64 f.pc, .slice A1 f.locals.length c1, .slice A2 f.stack.length c2], .int .i64 1] W' (Ret (.bool (frameB p f 1)) W') from fun W' hb =>
        rframe_any p Ap A1 A2 cp c1 c2 f 1 W' HV.out (RPA.out.below hb) (RLA.out.below hb) (RSA.out.below hb) (by omega))
      have q1 : IntKind.i64.wrap ((k : Int) + 1) = k + 1 := IntWalk.i64_in _ (by omega)
      have q2 : (0 : Int) ≤ k + 1 := by omega
      have q3 : ((k : Int) + 1).toNat = k + 1 := by omega
      have q4 : (k : Int) + 1 < (T : Int) + 1 := by omega
      obtain ⟨x1, ex1⟩ : ∃ x1, frameB p f 1 = x1 := ⟨_, rfl⟩
      rw [ex1] at HF
      have EX1 := Lib.hid ex1
      clear hfl bA rA b3A P1 P2 g0A rl rs ef hb
      cases x1 with
      | false =>
        have HEF := Lib.hid (runs_false (p := p) hk1 (show lessB p fs[k] fs[k + 1] = false by unfold lessB; rw [EF.out, EX1.out]; rfl))
        clear ex1 q1 q2 q3
        go_wp2_with fail
        clear hwA
        have HALLB := Lib.hid (show ∀ W', Bel wA W' → _ from fun W' hb => HALL.out W' hb)
        have HFB := Lib.hid (show ∀ W', Bel wA W' → Calls _ _ _ W' (fun e w'' => e = _ ∧ Bel wA w'') from fun W' hb => (HF.out W' hb).mono fun e w'' h => ⟨h.1, bel_trans hb h.2⟩)
        refine wp_region_bel (by kernel_rfl) (by kernel_rfl) ?_
        repeat
          first
            | go_big_quiet_skip
            | (go_big_quiet_want
               apply Exists.intro
               refine ⟨fun W' hW' => ?_, ?_⟩
               · obtain ⟨y0, y1, y2, y3, y4, y5, y6, -⟩ := HALLB.out W' hW'
                 go_simp
                 first
                   | exact rfl
                   | (with_reducible exact HFB.out W' hW')
               go_simp
               go_big_quiet_on)
        refine wpQuiet_nil ?_
        intro wq hq
        have HQ := Lib.hid (show Below wA.heap.size wA wq from hq)
        clear hq HALLB HFB
        go_wp2_with fail
        go_ret
        exact ret_tail (by rw [HE2.out, HEF.out]; rfl) (below_trans B3.out B3A.out) HQ.out
      | true =>
        obtain ⟨n', m', hn', hm', hnl, hml⟩ := frameB_in HV.out ex1
        have h64 := (codeMay_len (fnMay_of (packs_fn (verifyOf_packs HV.out) hnl)).2.2.2.2).2
        have HBH := Lib.hid (show ∀ (W' : World), Below wA.heap.size wA W' → Calls Tryz.prog 95 #[.agg #[.slice Ap p.length cp], .int .i64 f.fn, .int .i64 f.pc, .int .i64 fs[k + 1].fn] W' (Ret (.bool (behindB p f.fn f.pc fs[k + 1].fn)) W') from fun W' hb =>
          rbehind_any p Ap cp f.fn f.pc fs[k + 1].fn W' HV.out (RPA.out.below hb) (by rw [hm']; omega))
        obtain ⟨x2, ex2⟩ : ∃ x2, behindB p f.fn f.pc fs[k + 1].fn = x2 := ⟨_, rfl⟩
        rw [ex2] at HBH
        have EX2 := Lib.hid (show lessB p fs[k] fs[k + 1] = x2 by unfold lessB; rw [EF.out, EX1.out, ex2]; rfl)
        clear ex1 ex2 hn' hm' hml h64
        cases x2 with
        | false =>
          have HEF := Lib.hid (runs_false (p := p) hk1 EX2.out)
          go_wp2_with fail
          clear hwA
          have HALLB := Lib.hid (show ∀ W', Bel wA W' → _ from fun W' hb => HALL.out W' hb)
          have HFB := Lib.hid (show ∀ W', Bel wA W' → Calls _ _ _ W' (fun e w'' => e = _ ∧ Bel wA w'') from fun W' hb => (HF.out W' hb).mono fun e w'' h => ⟨h.1, bel_trans hb h.2⟩)
          have HBHB := Lib.hid (show ∀ W', Bel wA W' → Calls _ _ _ W' (fun e w'' => e = _ ∧ Bel wA w'') from fun W' hb => (HBH.out W' hb).mono fun e w'' h => ⟨h.1, bel_trans hb h.2⟩)
          refine wp_region_bel (by kernel_rfl) (by kernel_rfl) ?_
          repeat
            first
              | go_big_quiet_skip
              | (go_big_quiet_want
                 apply Exists.intro
                 refine ⟨fun W' hW' => ?_, ?_⟩
                 · obtain ⟨y0, y1, y2, y3, y4, y5, y6, -⟩ := HALLB.out W' hW'
                   go_simp
                   first
                     | exact rfl
                     | (with_reducible exact HFB.out W' hW')
                     | (with_reducible exact HBHB.out W' hW')
                 go_simp
                 go_big_quiet_on)
          refine wpQuiet_nil ?_
          intro wq hq
          have HQ := Lib.hid (show Below wA.heap.size wA wq from hq)
          clear hq HALLB HFB HBHB
          go_wp2_with fail
          go_ret
          exact ret_tail (by rw [HE2.out, HEF.out]; rfl) (below_trans B3.out B3A.out) HQ.out
        | true =>
          go_wp2_with fail
          clear hwA
          have HALLB := Lib.hid (show ∀ W', Bel wA W' → _ from fun W' hb => HALL.out W' hb)
          have HFB := Lib.hid (show ∀ W', Bel wA W' → Calls _ _ _ W' (fun e w'' => e = _ ∧ Bel wA w'') from fun W' hb => (HF.out W' hb).mono fun e w'' h => ⟨h.1, bel_trans hb h.2⟩)
          have HBHB := Lib.hid (show ∀ W', Bel wA W' → Calls _ _ _ W' (fun e w'' => e = _ ∧ Bel wA w'') from fun W' hb => (HBH.out W' hb).mono fun e w'' h => ⟨h.1, bel_trans hb h.2⟩)
          refine wp_region_bel (by kernel_rfl) (by kernel_rfl) ?_
          repeat
            first
              | go_big_quiet_skip
              | (go_big_quiet_want
                 apply Exists.intro
                 refine ⟨fun W' hW' => ?_, ?_⟩
                 · obtain ⟨y0, y1, y2, y3, y4, y5, y6, -⟩ := HALLB.out W' hW'
                   go_simp
                   first
                     | exact rfl
                     | (with_reducible exact HFB.out W' hW')
                     | (with_reducible exact HBHB.out W' hW')
                 go_simp
                 go_big_quiet_on)
          refine wpQuiet_nil ?_
          intro wq hq
          have HQ := Lib.hid (show Below wA.heap.size wA wq from hq)
          clear hq HALLB HFB HBHB
          go_wp2_with fail
          go_roundw
          case rel => exact ⟨k + 1, by omega, by go_num, fun i hi h => by
            rcases Nat.lt_or_ge i k with h2 | h2
            · exact HVV.out i hi h2
            · obtain rfl : i = k := by omega
              exact EX2.out, below_trans B3A.out HQ.out⟩
          case measure => simp only [intOf]; omega
    · obtain rfl : k = T := by omega
      have hkT : k < fs.length := by have := HT.out; omega
      obtain ⟨ad', e, hfk⟩ := RF.out.at_ hb hkT
      cases e
      obtain ⟨c0, ca1, ⟨A1, c1, ca2, rl⟩, A2, c2, ca3, rs⟩ := hfk
      have P1 := R1.out.below hb
      have P2 := R2.out.below hb
      have RPA := Lib.hid (RP.out.below hb)
      have RLA := Lib.hid rl
      have RSA := Lib.hid rs
      have HALL := Lib.hid (show ∀ W', Below wr.heap.size wr W' → W'.cell? ⟨w.heap.size, 0, none⟩ = some (.slice Ap p.length cp) ∧ W'.cell? ⟨w1.heap.size, 0, none⟩ = some (.slice (some ad) (k + 1) c) ∧ W'.cell? (ad.add (k * 4)) = some (.int .i64 fs[k].fn) ∧ W'.cell? ⟨(ad.add (k * 4)).block, (ad.add (k * 4)).off + 1, none⟩ = some (.int .i64 fs[k].pc) ∧ W'.cell? ⟨(ad.add (k * 4)).block, (ad.add (k * 4)).off + 2, none⟩ = some (.slice A1 fs[k].locals.length c1) ∧ W'.cell? ⟨(ad.add (k * 4)).block, (ad.add (k * 4)).off + 3, none⟩ = some (.slice A2 fs[k].stack.length c2) ∧ Below wr.heap.size wr W' from fun W' hb =>
        ⟨(P1.below hb).cell (k := 0) (by simp), (P2.below hb).cell (k := 0) (by simp), cell_below hb c0, cell_below hb ca1, cell_below hb ca2, cell_below hb ca3, hb⟩)
      have HF := Lib.hid (show ∀ (W' : World), Below wr.heap.size wr W' → Calls Tryz.prog 94 #[.agg #[.slice Ap p.length cp], .agg #[.int .i64 fs[k].fn, .int .i64 fs[k].pc, .slice A1 fs[k].locals.length c1, .slice A2 fs[k].stack.length c2], .int .i64 0] W' (Ret (.bool (frameB p fs[k] 0)) W') from fun W' hb =>
        rframe_any p Ap A1 A2 cp c1 c2 fs[k] 0 W' HV.out (RPA.out.below hb) (RLA.out.below hb) (RSA.out.below hb) (by omega))
      have HEF := Lib.hid (runs_last HT.out (by have := HT.out; omega) HVV.out)
      have q0 : IntKind.i64.wrap ((k : Int) + 1 - 1) = k := by rw [show ((k : Int) + 1 - 1) = k by omega]; exact IntWalk.i64_in _ (by omega)
      have q0b : IntKind.i64.wrap (k : Int) = k := IntWalk.i64_in _ (by omega)
      have q0c : wrap64 (k : Int) = k := by unfold wrap64; omega
      have q4 : (k : Int) < (k : Int) + 1 := by omega
      have q5 : k < k + 1 := by omega
      clear P1 P2 rl rs hb
      go_wp2_with fail
      have HALLB := Lib.hid (show ∀ W', Bel wr W' → _ from fun W' hb => HALL.out W' hb)
      have HFB := Lib.hid (show ∀ W', Bel wr W' → Calls _ _ _ W' (fun e w'' => e = _ ∧ Bel wr w'') from fun W' hb => (HF.out W' hb).mono fun e w'' h => ⟨h.1, bel_trans hb h.2⟩)
      refine wp_region_bel (by kernel_rfl) (by kernel_rfl) ?_
      repeat
        first
          | go_big_quiet_skip
          | (go_big_quiet_want
             apply Exists.intro
             refine ⟨fun W' hW' => ?_, ?_⟩
             · obtain ⟨y0, y1, y2, y3, y4, y5, -⟩ := HALLB.out W' hW'
               go_simp
               first
                 | exact rfl
                 | (with_reducible exact HFB.out W' hW')
             go_simp
             go_big_quiet_on)
      refine wpQuiet_nil ?_
      intro wq hq
      have HQ := Lib.hid (show Below wr.heap.size wr wq from hq)
      clear hq HALLB HFB
      go_wp2_with fail
      go_ret
      exact ret_tail (by rw [HE2.out, HEF.out]; rfl) (below_trans B3.out HB.out) HQ.out
end Go.Proofs.YtpfgklkdldkajaaGreatDoor

namespace Go.Proofs.YtpfgklkdldkajaaGreatDoor
open Go.RowKit

theorem chg_mono {S T : Nat → Prop} {w w1 w2 : World} (h : Chg T w w1) (k : Chg S w1 w2) (hs : ∀ i, S i → T i) : Chg T w w2 := h.trans k (fun i _ hi => hs i hi)
set_option maxHeartbeats 1000000 in
theorem spoilC_any (A : Option Addr) (c base : Nat) (xs : List Int) (w : World) (h : CRow w base 3 1 (.slice A xs.length c) xs.length (intsV xs)) :
    Calls Tryz.prog 41 #[.slice A xs.length c] w fun e w' => e = .returned (.tuple #[]) ∧ (∃ ys : List Int, ys.length = xs.length ∧ CRow w' base 3 1 (.slice A xs.length c) xs.length (intsV ys)) ∧ Chg (fun b => ob (.slice A xs.length c) = some b) w w' := by
  have H0 := Lib.hid h
  have hn : xs.length ≤ 9223372036854775807 := by
    obtain ⟨_, _, e, h1, h2⟩ := h.shape
    injection e with e1 e2 e3
    unfold maxLen at h2; omega
  obtain ⟨L, hL⟩ : ∃ L, xs.length = L := ⟨_, rfl⟩
  rw [hL] at hn H0 ⊢
  have HL := Lib.hid hL
  clear h hL
  go_enter Tryz.func41, Tryz.ntmps41
  go_wp2_with fail
  go_loopw [2] (fun i wr => ∃ (k : Nat) (ys : List Int), i = .int .i64 k ∧ k ≤ L ∧ ys.length = L ∧ CRow wr base 3 1 (.slice A L c) L (intsV ys) ∧ Chg (fun b => ob (.slice A L c) = some b) w wr) (fun i _ => L - (intOf i).toNat)
  case atStart => exact ⟨0, xs, rfl, Nat.zero_le _, HL.out, H0.out, Chg.refl _ _⟩
  case round =>
    obtain ⟨k, ys, rfl, hk, hy, ho, hc⟩ := hrel
    have HO := Lib.hid ho
    have HC := Lib.hid hc
    have HY := Lib.hid hy
    clear ho hc hy
    by_cases hlt : k < L
    · have hky : k < ys.length := by rw [HY.out]; exact hlt
      have hrow := HO.out.own (by omega)
      obtain ⟨g, off, e, _, _, hcs⟩ := hrow.cell (k := k) (by rw [intsV_len]; exact hky)
      subst e
      have hcap : ob (.slice (some ⟨g, off, none⟩) L c) = some g := by
        obtain ⟨_, _, e, h1, _⟩ := hrow.shape
        injection e with e1 e2 e3
        obtain ⟨c', rfl⟩ : ∃ c', c = c' + 1 := ⟨c - 1, by omega⟩
        rfl
      obtain ⟨c0, f0⟩ := hcs k (by rw [intsV_len]; exact hky)
      have e0 : (intsV ys)[k]'(by rw [intsV_len]; exact hky) = .int .i64 ys[k] := by simp [intsV]
      rw [e0] at c0
      have hp := fun n : Int => hrow.put k (.int .i64 n) (by rw [intsV_len]; exact hky)
      have hps : ∀ n : Int, (intsV ys).set k (.int .i64 n) = intsV (ys.set k n) := fun n => by simp [intsV, List.map_set]
      have HPUT := Lib.hid (fun n : Int => (hps n) ▸ hp n)
      have HCH := Lib.hid (fun u : Value => (Chg.put HC.out (a := ⟨g, off + k, none⟩) hcap u : Chg (fun b => ob (.slice (some ⟨g, off, none⟩) L c) = some b) w _))
      clear hcs hp hps e0 hrow hcap
      go_wp2_with fail
      go_roundw
      case rel => exact ⟨k + 1, _, by go_num, by omega, by rw [List.length_set]; exact HY.out, .inl (HPUT.out _), HCH.out _⟩
      case measure => simp only [intOf]; omega
    · go_wp2_with fail
      go_end0
      exact ⟨rfl, ⟨ys, HY.out, HO.out⟩, HC.out⟩
set_option maxRecDepth 100000 in
set_option maxHeartbeats 4000000 in
theorem spoilFrames_any (A : Option Addr) (c base : Nat) (fs : List Frm) (vss : List (List Value)) (w : World) (h : OwnFr w base (.slice A fs.length c) fs vss) :
    Calls Tryz.prog 67 #[.slice A fs.length c] w fun e w' => e = .returned (.tuple #[]) ∧ Chg (fun b => ∃ u ∈ (Value.slice A fs.length c) :: vss.flatten, ob u = some b) w w' := by
  have H0 := Lib.hid h
  have hn : fs.length ≤ 9223372036854775807 := h.reads.2.1
  obtain ⟨L, hL⟩ : ∃ L, fs.length = L := ⟨_, rfl⟩
  rw [hL] at hn H0 ⊢
  have HL := Lib.hid hL
  clear h hL
  go_enter Tryz.func67, Tryz.ntmps67
  go_wp2_with fail
  go_loopw [2] (fun i wr => ∃ (k : Nat) (gs : List Frm), i = .int .i64 k ∧ k ≤ L ∧ gs.length = L ∧ OwnFr wr base (.slice A L c) gs vss ∧ Chg (fun b => ∃ u ∈ (Value.slice A L c) :: vss.flatten, ob u = some b) w wr) (fun i _ => L - (intOf i).toNat)
  case atStart => exact ⟨0, fs, rfl, Nat.zero_le _, HL.out, H0.out, Chg.refl _ _⟩
  case round =>
    obtain ⟨k, gs, rfl, hk, hy, ho, hc⟩ := hrel
    have HC := Lib.hid hc
    have HY := Lib.hid hy
    by_cases hlt : k < L
    · have hkg : k < gs.length := by omega
      obtain ⟨g, off, eA, _, _, hobv, hk', A1, c1, A2, c2, ev, i1, i2, d0, d1, d2, d3, hfz⟩ := ho.at_ hkg
      subst eA
      have hmem : ∀ u ∈ vss[k], u ∈ (Value.slice (some ⟨g, off, none⟩) L c) :: vss.flatten := fun u hu => List.mem_cons_of_mem _ (List.mem_flatten.2 ⟨_, List.getElem_mem hk', hu⟩)
      have HI1 := Lib.hid (spoilC_any A1 c1 base gs[k].locals wr i1)
      have HO := Lib.hid ho
      have EV := Lib.hid ev
      have HMEM := Lib.hid hmem
      have OBV := Lib.hid hobv
      clear ho hc hy ev hmem hobv i1 i2 hfz d3 d1 d0
      go_wp2_with fail
      (with_reducible refine HI1.out.mono ?_)
      rintro e w1 ⟨rfl, ⟨ys, hyl, hcy⟩, hch⟩
      have ho1 := OwnG.turn HO.out hkg hk' (j := 0) (by rw [EV.out]; simp) { gs[k] with locals := ys } (innI ys) (by simp only [EV.out]; exact hch) (by simp only [EV.out, InnAt, innI]; rw [hyl]; exact hcy) rfl rfl
      have hkg1 : k < (gs.set k { gs[k] with locals := ys }).length := by simpa using hkg
      obtain ⟨g', off', eA, _, _, _, hk2, A3, c3, A4, c4, ev2, i1, i2, d0, d1, d2', d3, hfz⟩ := OwnFr.at_ ho1 hkg1
      cases eA
      have eAA := EV.out.symm.trans ev2
      injection eAA with e1 e2
      injection e2 with e2 e3
      injection e2 with e4 e5 e6
      subst e4 e6
      have es : (gs.set k { gs[k] with locals := ys })[k].stack = gs[k].stack := by simp
      simp only [es] at d3
      have i2' : CRow w1 base 3 1 (.slice A2 gs[k].stack.length c2) gs[k].stack.length (intsV gs[k].stack) := by
        have := i2
        unfold InnAt innI at this
        simp only [es] at this
        exact this
      have HI2 := Lib.hid (spoilC_any A2 c2 base gs[k].stack w1 i2')
      have HO1 := Lib.hid ho1
      have HC1 := Lib.hid (chg_mono HC.out hch (fun b hb => ⟨_, HMEM.out _ (by rw [EV.out]; simp), hb⟩))
      clear ho1 hch hcy i1 i2 i2' ev2 e1 e3 e5 es hfz d0 d1 d2' HI1 hyl
      go_wp2_with fail
      (with_reducible refine HI2.out.mono ?_)
      rintro e w2 ⟨rfl, ⟨zs, hzl, hcz⟩, hch⟩
      have ho2 := OwnG.turn HO1.out hkg1 hk' (j := 1) (by rw [EV.out]; simp) { (gs.set k { gs[k] with locals := ys })[k] with stack := zs } (innI zs) (by simp only [EV.out]; exact hch) (by simp only [EV.out, InnAt, innI]; rw [hzl]; exact hcz) rfl rfl
      obtain ⟨gs2, eg2⟩ : ∃ gs2, (gs.set k { gs[k] with locals := ys }).set k { (gs.set k { gs[k] with locals := ys })[k] with stack := zs } = gs2 := ⟨_, rfl⟩
      rw [eg2] at ho2
      have hl2 : gs2.length = L := by rw [← eg2]; simp; exact HY.out
      have hkg2 : k < gs2.length := by omega
      obtain ⟨g', off', eA, _, _, _, hk2, A3, c3, A4, c4, ev2, i1, i2, d0, d1, d2', d3', hfz⟩ := OwnFr.at_ ho2 hkg2
      cases eA
      have z1 := hfz 1 (by decide)
      have HP := Lib.hid (fun n : Int => OwnG.put (K := KFr) ho2 hkg2 hk' (j := 1) (by decide) (.int .i64 n) { gs2[k] with pc := n } (by rw [ev2]; rfl) rfl)
      have HC2 := Lib.hid (chg_mono HC1.out hch (fun b hb => ⟨_, HMEM.out _ (by rw [EV.out]; simp), hb⟩))
      have HCP := Lib.hid (fun u : Value => (Chg.put HC2.out (a := ⟨g, off + k * 4 + 1, none⟩) ⟨_, List.mem_cons_self .., OBV.out⟩ u))
      have HL2 := Lib.hid hl2
      clear ho2 hch hcz eg2 hl2 hfz ev2 i1 i2 d0 d2' d3' hzl HI2
      go_wp2_with fail
      go_roundw
      case rel => exact ⟨k + 1, _, by go_num, by omega, by rw [List.length_set]; exact HL2.out, HP.out _, HCP.out _⟩
      case measure => simp only [intOf]; omega
    · clear ho hc hy
      go_wp2_with fail
      go_end0
      exact ⟨rfl, HC.out⟩
set_option maxRecDepth 100000 in
set_option maxHeartbeats 4000000 in
theorem spoilState_any (s : Stt) (A Ao : Option Addr) (c co base : Nat) (vss : List (List Value)) (w : World) (h : OwnS w base s (.slice A s.frames.length c) (.slice Ao s.out.length co) vss) :
    Calls Tryz.prog 29 #[sttV s (.slice A s.frames.length c) (.slice Ao s.out.length co)] w fun e w' => e = .returned (.tuple #[]) ∧ Chg (fun b => base ≤ b) w w' := by
  obtain ⟨fs, fuel, out, done, value⟩ := s
  unfold sttV
  simp only at h ⊢
  obtain ⟨w1, hw1⟩ : ∃ w1, w.alloc (.cells #[.slice A fs.length c, .int .i64 fuel, .slice Ao out.length co, .int .i64 done, .int .i64 value] 47) = w1 := ⟨_, rfl⟩
  have b1 : Below w.heap.size w w1 := hw1 ▸ below_alloc (Below.refl _ _) _
  have r1 : RowAt 47 w.heap.size [.slice A fs.length c, .int .i64 fuel, .slice Ao out.length co, .int .i64 done, .int .i64 value] w1 := hw1 ▸ RowAt.new _ _ w
  have k0 := r1.cell (k := 0) (by simp)
  simp only [List.getElem_cons_zero] at k0
  have h1 := h.below b1
  have H := Lib.hid (spoilFrames_any A c base fs vss w1 h1.fr)
  have H1 := Lib.hid h1
  have HB := Lib.hid b1
  have R1 := Lib.hid r1
  have HLO := Lib.hid h.fr.lo
  have HOL := Lib.hid h.out.in_
  clear b1 r1 h h1
  go_enter Tryz.func29, Tryz.ntmps29
  go_wp2_with fail
  (with_reducible refine H.out.mono ?_)
  rintro e w2 ⟨rfl, hch⟩
  have r2 := R1.out.chg hch (fun ⟨u, hu, e⟩ => by have := (HLO.out u hu _ e).2; omega)
  have k2 := r2.cell (k := 2) (by simp)
  simp only [List.getElem_cons_zero, List.getElem_cons_succ] at k2
  have H2 := Lib.hid (spoilC_any Ao co base out w2 (H1.out.out.chg hch (fun b hb ⟨u, hu, e⟩ => H1.out.sep u hu b e hb)))
  have HC := Lib.hid (chg_mono (T := fun b => base ≤ b) (Chg.of_below HB.out) hch (fun b ⟨u, hu, e⟩ => (HLO.out u hu b e).1))
  clear hch r2 H hw1 k0
  go_wp2_with fail
  (with_reducible refine H2.out.mono ?_)
  rintro e w3 ⟨rfl, -, hch⟩
  have HC2 := Lib.hid (chg_mono HC.out hch (fun b hb => (HOL.out b hb).1))
  clear hch
  go_wp2_with fail
  go_end0
  exact ⟨rfl, HC2.out⟩
end Go.Proofs.YtpfgklkdldkajaaGreatDoor

namespace Go.Proofs.YtpfgklkdldkajaaGreatDoor
open Go.RowKit

theorem ReadsI.prefix {w : World} {A : Option Addr} {xs ys : List Int} (h : ReadsI w A (xs ++ ys)) : ReadsI w A xs := by
  refine ⟨by have := h.1; rw [List.length_append] at this; omega, fun h0 => ?_⟩
  obtain ⟨ad, e, hc⟩ := h.2 (by rw [List.length_append]; omega)
  exact ⟨ad, e, fun j hj => by rw [hc j (by rw [List.length_append]; omega), List.getElem_append_left hj]⟩
/-- A lent list: marked room behind it. -/
def LendE (xs : List Int) (w : World) (e : Ending) (w' : World) : Prop := ∃ g off cap, e = .returned (.slice (some ⟨g, off, none⟩) xs.length cap) ∧ xs.length + 2 ≤ cap ∧ cap ≤ maxLen ∧ ReadsI w' (some ⟨g, off, none⟩) (xs ++ [-7777, -8888]) ∧ Below w.heap.size w w'
end Go.Proofs.YtpfgklkdldkajaaGreatDoor
