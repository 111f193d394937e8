/- '(*book).runs' answers what the plain definition says. Conditions: the book, the frames lie in memory as they are said; the program is verified. 'frame.May', 'frame.State' answer what the plain definitions say. Conditions: the program, the frame, the state lie in memory as they are said; errors.errorType is laid. 'frame.Begin': a function's frame at its start. Conditions: the program lies in memory; the args are no more than its locals. -/
import Derived.Test.YtpfgklkdldkajaaDoorGE12
import Derived.Test.YtpfgklkdldkajaaDoorGE10
import Derived.Test.YtpfgklkdldkajaaDoorGE06
namespace Go.Proofs.YtpfgklkdldkajaaDoor
open Go.RowKit

theorem RetD.quiet {P : Program} {f : FuncId} {args : Array Value} {w : World} {k n : Nat} {v : Value} (h : Calls P f args (w.drewN (k + n)) (RetD v (w.drewN (k + n)))) : Calls P f args (w.drewN (k + n)) fun e w'' => e = .returned v ∧ ∃ m, w'' = w.drewN (k + m) :=
  h.mono fun _ _ ⟨he, j, hm⟩ => ⟨he, n + j, by rw [hm, drewN_two, Nat.add_assoc]⟩
theorem RetD.quiet0 {P : Program} {f : FuncId} {args : Array Value} {w : World} {n : Nat} {v : Value} (h : Calls P f args (w.drewN n) (RetD v (w.drewN n))) : Calls P f args (w.drewN n) fun e w'' => e = .returned v ∧ ∃ m, w'' = w.drewN m :=
  h.mono fun _ _ ⟨he, j, hm⟩ => ⟨he, n + j, by rw [hm, drewN_two]⟩
theorem retD_back {b : Bool} {v : Value} {w w' : World} {n : Nat} (e : v = .bool b) (h : ∃ m, w' = (w.drewN n).drewN m ∨ w' = w.drewN m) : RetD (.bool b) w (.returned v) w' := by
  obtain ⟨m, h | h⟩ := h
  · exact ⟨by rw [e], n + m, by rw [h, drewN_two]⟩
  · exact ⟨by rw [e], m, h⟩
/-- What a frame that may be has. -/
theorem frameB_in {p : List Fn} {f : Frm} {less : Int} (hv : verifyOf p = 0) (h : frameB p f less = true) : ∃ n m : Nat, f.fn = n ∧ f.pc = m ∧ ∃ hn : n < p.length, m < p[n].code.length := by
  have h0 : 0 ≤ heightAt p f.fn f.pc := by
    unfold frameB at h
    simp only [Bool.and_eq_true, decide_eq_true_eq] at h
    exact h.1.1.1.1
  by_cases h1 : 0 ≤ f.fn ∧ f.fn < p.length
  · obtain ⟨n, hn⟩ := Int.eq_ofNat_of_zero_le h1.1
    have hnl : n < p.length := by omega
    by_cases h2 : f.pc < 0
    · rw [heightAt_neg h2] at h0; exact absurd h0 (by decide)
    · obtain ⟨m, hm⟩ := Int.eq_ofNat_of_zero_le (Int.not_lt.1 h2)
      by_cases h3 : m < p[n].code.length
      · exact ⟨n, m, hn, hm, hnl, h3⟩
      · rw [hn, heightAt_far hv hnl (by omega)] at h0; exact absurd h0 (by decide)
  · rw [heightAt_no h1] at h0; exact absurd h0 (by decide)
theorem behind_called {p : List Fn} {fn pc called : Int} (hv : verifyOf p = 0) (h : behindB p fn pc called = true) : 0 ≤ called ∧ called < 8 := by
  unfold behindB at h
  simp only [Bool.and_eq_true, decide_eq_true_eq] at h
  obtain ⟨_, hc⟩ := h
  unfold codeAt at hc
  split at hc
  · rename_i g hg
    obtain ⟨hk, rfl⟩ := List.getElem?_eq_some_iff.1 hg
    obtain ⟨hj, hx⟩ := List.getElem?_eq_some_iff.1 hc
    have hm := may_mem (fnMay_of (packs_fn (verifyOf_packs hv) hk)).2.2.2.2 hj
    rw [hx] at hm
    have := (may_of hm).2.2 (by simp)
    simp only [belowOf] at this
    omega
  · cases hc
theorem lessB_neg {p : List Fn} {f g : Frm} (hv : verifyOf p = 0) (h : g.fn < 0) : lessB p f g = false := by
  unfold lessB
  cases hb : behindB p f.fn f.pc g.fn with
  | false => simp
  | true => have := behind_called hv hb; omega
theorem runs_false {p : List Fn} {fs : List Frm} {k : Nat} (hk : k + 1 < fs.length) (h : lessB p fs[k] fs[k + 1] = false) : runsB p fs = false := by
  unfold runsB
  have : runsFrom p fs = false := by
    cases hr : runsFrom p fs with
    | false => rfl
    | true => have := ((runs_iff p fs (by omega)).1 hr).1 k hk; rw [h] at this; cases this
  rw [this, Bool.and_false]
theorem runs_last {p : List Fn} {fs : List Frm} {T : Nat} (h1 : fs.length = T + 1) (h12 : fs.length ≤ 12) (h : ∀ i (hi : i + 1 < fs.length), i < T → lessB p fs[i] fs[i + 1] = true) : runsB p fs = frameB p (fs[T]'(by omega)) 0 := by
  unfold runsB
  rw [decide_eq_true (show 1 ≤ fs.length by omega), decide_eq_true h12, Bool.true_and, Bool.true_and, Bool.eq_iff_iff, runs_iff p fs (by omega)]
  have e : fs.length - 1 = T := by omega
  constructor
  · rintro ⟨_, h2⟩
    simp only [e] at h2; exact h2
  · intro h2
    refine ⟨fun i hi => h i hi (by omega), ?_⟩
    simp only [e]; exact h2
set_option maxRecDepth 100000 in
set_option maxHeartbeats 4000000 in
theorem runs_any (B P : Addr) (p : List Fn) (Ap H A : Option Addr) (cp ch c : Nat) (fs : List Frm) (w : World) (hv : verifyOf p = 0) (hb : BookAt w B P p Ap cp H ch) (hf : ReadsFr w A fs) (hc : fs.length ≤ c) :
    Calls Tryd.prog 86 #[.pointer (some B), .slice A fs.length c] w (RetD (.bool (runsB p fs)) w) := by
  have HB := Lib.hid hb
  have HFS := Lib.hid hf
  have HV := Lib.hid hv
  have b0 := hb.b0
  have b1 := hb.b1
  have hn := hf.1
  clear hv hb hf
  by_cases l1 : fs.length < 1
  · have HE := Lib.hid (show runsB p fs = false by unfold runsB; rw [decide_eq_false (by omega)]; rfl)
    have d1 : decide (fs.length < 1) = true := by simpa using l1
    go_enter Tryd.func86, Tryd.ntmps86
    go_wp2_with fail
    go_ret
    exact retD_of (by rw [HE.out]; rfl) ⟨0, rfl⟩
  have d1 : decide (fs.length < 1) = false := by simpa using l1
  by_cases l2 : 12 < fs.length
  · have HE := Lib.hid (show runsB p fs = false by unfold runsB; rw [decide_eq_true (show 1 ≤ fs.length by omega), decide_eq_false (show ¬ fs.length ≤ 12 by omega)]; rfl)
    have d2 : decide (12 < fs.length) = true := by simpa using l2
    go_enter Tryd.func86, Tryd.ntmps86
    go_wp2_with fail
    go_ret
    exact retD_of (by rw [HE.out]; rfl) ⟨0, rfl⟩
  have d2 : decide (12 < fs.length) = false := by simpa using l2
  obtain ⟨T, hT⟩ : ∃ T, fs.length = T + 1 := ⟨fs.length - 1, by omega⟩
  have hT12 : T ≤ 11 := by omega
  obtain ⟨ad, rfl, hx⟩ := HFS.out.at_ (Below.refl _ _) (k := T) (by omega)
  clear hx
  rw [hT] at d1 d2 hn hc ⊢
  have HT := Lib.hid hT
  clear l1 l2 hT
  go_enter Tryd.func86, Tryd.ntmps86
  go_wp2_with fail
  clear d1 d2
  go_loopw [22] (fun i wr => ∃ k : Nat, k ≤ T ∧ i = .int .i64 k ∧ (∀ i (hi : i + 1 < fs.length), i < k → lessB p fs[i] fs[i + 1] = true) ∧ ∃ n, wr = w.drewN n) (fun i _ => T - (intOf i).toNat)
  case atStart => exact ⟨0, Nat.zero_le _, rfl, fun _ _ h => absurd h (Nat.not_lt_zero _), 0, rfl⟩
  case round =>
    obtain ⟨k, hk, rfl, hvv, n, rfl⟩ := hrel
    have HVV := Lib.hid hvv
    clear hvv
    by_cases hlt : k < T
    · have hk0 : k < fs.length := by have := HT.out; omega
      have hk1 : k + 1 < fs.length := by have := HT.out; omega
      obtain ⟨ad', e, hfk⟩ := HFS.out.at_ (Below.refl _ _) hk0
      cases e
      obtain ⟨ad', e, hfl⟩ := HFS.out.at_ (Below.refl _ _) hk1
      cases e
      have g0 := hfl.1
      have HFK := Lib.hid hfk
      have HM := Lib.hid (fun m => bmay_any B P (ad.add (k * 4)) p Ap H cp ch fs[k] 1 (w.drewN m) (by omega) HV.out (HB.out.below (below_drew (Below.refl _ _) _)) (hfk.below (below_drew (Below.refl _ _) _)))
      obtain ⟨x1, ex1⟩ : ∃ x1, frameB p fs[k] 1 = x1 := ⟨_, rfl⟩
      rw [ex1] at HM
      have EX1 := Lib.hid ex1
      have q1 : IntKind.i64.wrap ((k : Int) + 1) = k + 1 := IntWalk.i64_in _ (by omega)
      have q2 : (0 : Int) ≤ k + 1 := by omega
      have q3 : ((k : Int) + 1).toNat = k + 1 := by omega
      clear hfk hfl
      cases x1 with
      | false =>
        have HE := Lib.hid (runs_false (p := p) hk1 (show lessB p fs[k] fs[k + 1] = false by unfold lessB; rw [ex1]; rfl))
        clear ex1
        go_wp2_with fail
        go_quiet ((go_at_call 109; with_reducible (first | exact RetD.quiet0 (HM.out _) | exact RetD.quiet (HM.out _))))
        go_wp2_with fail
        go_ret
        exact retD_back (by rw [HE.out]; rfl) ⟨_, by first | exact .inl rfl | exact .inr rfl⟩
      | true =>
        obtain ⟨n', m', hn', hm', hnl, hml⟩ := frameB_in HV.out ex1
        have g1 := HFK.out.1
        have g2 := HFK.out.2.1
        rw [hn'] at g1
        rw [hm'] at g2
        by_cases hneg : fs[k + 1].fn < 0
        · have HE := Lib.hid (runs_false (p := p) hk1 (lessB_neg (f := fs[k]) HV.out hneg))
          have d3 : decide (fs[k + 1].fn < 0) = true := by simpa using hneg
          clear ex1 hn' hm' hml hneg
          go_wp2_with fail
          go_quiet ((go_at_call 109; with_reducible (first | exact RetD.quiet0 (HM.out _) | exact RetD.quiet (HM.out _))))
          go_wp2_with fail
          go_ret
          exact retD_back (by rw [HE.out]; rfl) ⟨_, by first | exact .inl rfl | exact .inr rfl⟩
        · have d3 : decide (fs[k + 1].fn < 0) = false := by simpa using hneg
          have HA := Lib.hid (fun m => after_any P p Ap H cp ch n' m' fs[k + 1].fn (w.drewN m) HV.out hnl (HB.out.below (below_drew (Below.refl _ _) _)).hp (HB.out.below (below_drew (Below.refl _ _) _)).rp (HB.out.below (below_drew (Below.refl _ _) _)).rh)
          obtain ⟨x2, ex2⟩ : ∃ x2, behindB p n' m' fs[k + 1].fn = x2 := ⟨_, rfl⟩
          rw [ex2] at HA
          have EX2 := Lib.hid (show lessB p fs[k] fs[k + 1] = x2 by unfold lessB; rw [ex1, hn', hm', ex2]; rfl)
          clear ex1 ex2 hn' hm' hml hneg
          cases x2 with
          | false =>
            have HE := Lib.hid (runs_false (p := p) hk1 EX2.out)
            go_wp2_with fail
            go_quiet ((first | (go_at_call 109; with_reducible (first | exact RetD.quiet0 (HM.out _) | exact RetD.quiet (HM.out _))) | (go_at_call 110; with_reducible (first | exact RetD.quiet0 (HA.out _) | exact RetD.quiet (HA.out _)))))
            go_wp2_with fail
            go_ret
            exact retD_back (by rw [HE.out]; rfl) ⟨_, by first | exact .inl rfl | exact .inr rfl⟩
          | true =>
            go_wp2_with fail
            go_quiet ((first | (go_at_call 109; with_reducible (first | exact RetD.quiet0 (HM.out _) | exact RetD.quiet (HM.out _))) | (go_at_call 110; with_reducible (first | exact RetD.quiet0 (HA.out _) | exact RetD.quiet (HA.out _)))))
            go_wp2_with fail
            go_roundw
            case rel => exact ⟨k + 1, by omega, by go_num, fun i hi h => by
              rcases Nat.lt_or_ge i k with h2 | h2
              · exact HVV.out i hi h2
              · obtain rfl : i = k := by omega
                exact EX2.out, by first | exact ⟨_, rfl⟩ | exact ⟨_, drewN_two _ _ _⟩⟩
            case measure => simp only [intOf]; omega
    · obtain rfl : k = T := by omega
      have hkT : k < fs.length := by have := HT.out; omega
      obtain ⟨ad', e, hfk⟩ := HFS.out.at_ (Below.refl _ _) hkT
      cases e
      have HM := Lib.hid (fun m => bmay_any B P (ad.add (k * 4)) p Ap H cp ch fs[k] 0 (w.drewN m) (by omega) HV.out (HB.out.below (below_drew (Below.refl _ _) _)) (hfk.below (below_drew (Below.refl _ _) _)))
      have HE := Lib.hid (runs_last HT.out (by have := HT.out; omega) HVV.out)
      clear hfk
      go_wp2_with fail
      refine (HM.out _).mono ?_
      rintro e w' ⟨rfl, m, rfl⟩
      go_wp2_with fail
      go_ret
      exact retD_of (by rw [HE.out]; rfl) (by first | exact ⟨_, rfl⟩ | exact ⟨_, drewN_two _ _ _⟩)
end Go.Proofs.YtpfgklkdldkajaaDoor

namespace Go.Proofs.YtpfgklkdldkajaaDoor
open Go.RowKit

theorem frm_new (f : Frm) (A1 A2 : Option Addr) (c1 c2 : Nat) (w : World) (h1 : ReadsI w A1 f.locals) (h2 : ReadsI w A2 f.stack) :
    FrmAt (w.alloc (.cells #[.int .i64 f.fn, .int .i64 f.pc, .slice A1 f.locals.length c1, .slice A2 f.stack.length c2] 149)) ⟨w.heap.size, 0, none⟩ f := by
  have hb := below_alloc (Below.refl w.heap.size w) (.cells #[.int .i64 f.fn, .int .i64 f.pc, .slice A1 f.locals.length c1, .slice A2 f.stack.length c2] 149)
  have hn := blk_new w (.cells #[.int .i64 f.fn, .int .i64 f.pc, .slice A1 f.locals.length c1, .slice A2 f.stack.length c2] 149)
  exact ⟨(blk_cell hn 0).trans rfl, (blk_cell hn 1).trans rfl, ⟨A1, c1, (blk_cell hn 2).trans rfl, h1.below hb⟩, A2, c2, (blk_cell hn 3).trans rfl, h2.below hb⟩
theorem ret_tail {b : Bool} {v : Value} {w w1 w2 : World} (e : v = .bool b) (h : Below w.heap.size w w1) (k : Below w1.heap.size w1 w2) : Ret (.bool b) w (.returned v) w2 := ⟨by rw [e], below_trans h k⟩
theorem dec_false {P : Prop} [Decidable P] (h : ¬ P) : decide P = false := decide_eq_false h
set_option maxRecDepth 100000 in
set_option maxHeartbeats 4000000 in
theorem state_any (p : List Fn) (Ap A Ao : Option Addr) (cp c co : Nat) (s : Stt) (w : World) (hl : Laid w) (hr : ReadsF w Ap p) (hf : ReadsFr w A s.frames) (hc : s.frames.length ≤ c) (ho : ReadsI w Ao s.out) :
    Calls Tryd.prog 58 #[.agg #[.slice Ap p.length cp], sttV s (.slice A s.frames.length c) (.slice Ao s.out.length co)] w (Ret (.bool (stateB p s)) w) := by
  obtain ⟨fs, fuel, out, done, value⟩ := s
  unfold sttV
  simp only at hf hc ho ⊢
  obtain ⟨w1, hw1⟩ : ∃ w1, w.alloc (.cells #[.slice Ap p.length cp] 24) = w1 := ⟨_, rfl⟩
  obtain ⟨w2, hw2⟩ : ∃ w2, w1.alloc (.cells #[.slice A fs.length c, .int .i64 fuel, .slice Ao out.length co, .int .i64 done, .int .i64 value] 74) = w2 := ⟨_, rfl⟩
  have b1 : Below w.heap.size w w1 := hw1 ▸ below_alloc (Below.refl _ _) _
  have b2 : Below w1.heap.size w1 w2 := hw2 ▸ below_alloc (Below.refl _ _) _
  have p1 : w1.cell? ⟨w.heap.size, 0, none⟩ = some (.slice Ap p.length cp) := hw1 ▸ (blk_cell (blk_new w _) 0).trans rfl
  have hR : RowAt 74 w1.heap.size [.slice A fs.length c, .int .i64 fuel, .slice Ao out.length co, .int .i64 done, .int .i64 value] w2 := hw2 ▸ RowAt.new _ _ w1
  have B2 := Lib.hid (below_trans b1 b2)
  have HR := Lib.hid hR
  have HFS := Lib.hid (hf.below (below_trans b1 b2))
  have HOU := Lib.hid (ho.below (below_trans b1 b2))
  have hno := ho.1
  have hnf := hf.1
  have HO := Lib.hid (open_any ⟨w.heap.size, 0, none⟩ p Ap cp w2 (hl.below B2.out) (cell_below b2 p1) (hr.below B2.out))
  obtain ⟨vf, hvf⟩ : ∃ vf, verifyOf p = vf := ⟨_, rfl⟩
  have HVF := Lib.hid hvf
  unfold OpenE at HO
  rw [hvf] at HO
  clear hvf b1 b2 p1 hR hl hr hf ho
  by_cases hv : vf = 0
  · have dv : (vf == 0) = true := by simpa using hv
    have HV := Lib.hid hv
    rw [dv] at HO
    clear hv dv
    go_enter Tryd.func58, Tryd.ntmps58
    go_wp2_with fail
    refine HO.out.mono ?_
    rintro e w3 ⟨B, rfl, hB, hbk⟩
    obtain ⟨H, ch, hbk⟩ := hbk HV.out
    have B3 := Lib.hid (below_trans B2.out hB)
    have hR := HR.out.below hB
    have k0 := hR.cell (k := 0) (by simp)
    have k1 := hR.cell (k := 1) (by simp)
    have k2 := hR.cell (k := 2) (by simp)
    have k3 := hR.cell (k := 3) (by simp)
    have k4 := hR.cell (k := 4) (by simp)
    simp only [List.getElem_cons_succ, List.getElem_cons_zero] at k0 k1 k2 k3 k4
    have HM := Lib.hid (runs_any B ⟨w.heap.size, 0, none⟩ p Ap H A cp ch c fs w3 (HVF.out.trans HV.out) hbk (HFS.out.below hB) hc)
    have HA := Lib.hid (wrapAll_any Ao co out w3 (HOU.out.below hB))
    have HI := Lib.hid (is_any value w3)
    have HE := Lib.hid (show stateB p ⟨fs, fuel, out, done, value⟩ = (decide (0 ≤ fuel) && decide (fuel ≤ 100000) && decide ((out.length : Int) ≤ 100000 - fuel) && out.all isNum &&
        (if done = 0 then decide (value = 0) && runsB p fs else decide (0 < done) && decide (done ≤ 4) && (decide (fs.length = 0) && (if done = 1 then isNum value else decide (value = 0))))) by
      unfold stateB overB; rw [HVF.out, HV.out]; rfl)
    obtain ⟨xo, exo⟩ : ∃ xo, out.all isNum = xo := ⟨_, rfl⟩
    obtain ⟨xr, exr⟩ : ∃ xr, runsB p fs = xr := ⟨_, rfl⟩
    obtain ⟨xv, exv⟩ : ∃ xv, isNum value = xv := ⟨_, rfl⟩
    rw [exo] at HA HE
    rw [exr] at HM HE
    rw [exv] at HI HE
    clear exo exr exv hbk hB hw1 hw2 HO hR HR
    go_wp2_with (first | (go_at_call 47; refine HA.out.mono ?_; rintro e w' ⟨rfl, rfl⟩) | (go_at_call 75; refine HI.out.mono ?_; rintro e w' ⟨rfl, rfl⟩) | (go_at_call 86; refine HM.out.mono ?_; rintro e w4 ⟨rfl, n, rfl⟩))
    all_goals go_ret
    all_goals refine ret_tail ?_ B3.out (by first | exact Below.refl _ _ | exact below_drew (Below.refl _ _) _)
    all_goals rw [HE.out]
    all_goals clear HE HM HA HI k0 k1 k2 k3 k4 B3 B2 HFS HOU HVF HV
    all_goals first | (simp_all; done) | (simp_all; omega) | (cases xo <;> first | (simp_all; done) | (simp_all; omega) | (simp_all [beq_dec]; done) | (exfalso; simp_all; omega))
  · have dv : (vf == 0) = false := by simpa using hv
    have HV := Lib.hid hv
    rw [dv] at HO
    clear hv dv
    go_enter Tryd.func58, Tryd.ntmps58
    go_wp2_with fail
    refine HO.out.mono ?_
    rintro e w3 ⟨B, rfl, hB, -⟩
    have B3 := Lib.hid (below_trans B2.out hB)
    clear hB hw1 hw2 HO HR
    go_wp2_with fail
    go_ret
    exact ret_tail (by unfold stateB; rw [HVF.out, decide_eq_false HV.out]; rfl) B3.out (Below.refl _ _)
end Go.Proofs.YtpfgklkdldkajaaDoor

namespace Go.Proofs.YtpfgklkdldkajaaDoor
open Go.RowKit

/-- A frame's cells; its rows. -/
def KFr : Kind Frm where
  t := 149
  sz := 4
  m := 2
  cells := fun f vs => [.int .i64 f.fn, .int .i64 f.pc, vs.getD 0 undef, vs.getD 1 undef]
  rows := fun f => [innI f.locals, innI f.stack]
  len := fun _ _ => rfl
def OwnFr (w : World) (base : Nat) (v : Value) (fs : List Frm) (vss : List (List Value)) : Prop := OwnG KFr w base v fs vss
theorem two_of {l : List Value} (h : l.length = 2) : ∃ a b, l = [a, b] := by match l, h with | [a, b], _ => exact ⟨a, b, rfl⟩
/-- A frame's fields, out of its row. -/
theorem OwnFr.at_ {w : World} {base n cap : Nat} {ao : Option Addr} {fs : List Frm} {vss : List (List Value)} (h : OwnFr w base (.slice ao n cap) fs vss) {k : Nat} (hk : k < fs.length) :
    ∃ g off, ao = some ⟨g, off, none⟩ ∧ base ≤ g ∧ g < w.heap.size ∧ ob (.slice ao n cap) = some g ∧ ∃ hk' : k < vss.length, ∃ A1 c1 A2 c2, vss[k] = [.slice A1 fs[k].locals.length c1, .slice A2 fs[k].stack.length c2] ∧
      InnAt w base (.slice A1 fs[k].locals.length c1) (innI fs[k].locals) ∧ InnAt w base (.slice A2 fs[k].stack.length c2) (innI fs[k].stack) ∧
      w.cell? ⟨g, off + k * 4, none⟩ = some (.int .i64 fs[k].fn) ∧ w.cell? ⟨g, off + k * 4 + 1, none⟩ = some (.int .i64 fs[k].pc) ∧ w.cell? ⟨g, off + k * 4 + 2, none⟩ = some (.slice A1 fs[k].locals.length c1) ∧ w.cell? ⟨g, off + k * 4 + 3, none⟩ = some (.slice A2 fs[k].stack.length c2) ∧
      ∀ j, j < 4 → w.frozen? ⟨g, off + k * 4 + j, none⟩ = false := by
  have hl := h.len
  have hk' : k < vss.length := by omega
  obtain ⟨g, off, rfl, h1, h2, h3, hc⟩ := OwnG.cell h (by decide) hk
  obtain ⟨e, hi⟩ := h.inn k hk hk'
  obtain ⟨a, b, eab⟩ := two_of (show vss[k].length = 2 from e)
  have i0 := hi 0 (by rw [eab]; simp) (by simp [KFr])
  have i1 := hi 1 (by rw [eab]; simp) (by simp [KFr])
  have e0 : vss[k][0]'(by rw [eab]; simp) = a := by simp [eab]
  have e1 : vss[k][1]'(by rw [eab]; simp) = b := by simp [eab]
  rw [e0] at i0
  rw [e1] at i1
  have i0' : InnAt w base a (innI fs[k].locals) := i0
  have i1' : InnAt w base b (innI fs[k].stack) := i1
  obtain ⟨A1, c1, ea, _, _⟩ := CRow.shape i0'
  obtain ⟨A2, c2, eb, _, _⟩ := CRow.shape i1'
  subst ea eb
  have cc := fun j (hj : j < 4) => hc k hk hk' j hj
  have c0 := (cc 0 (by decide)).1
  have c1' := (cc 1 (by decide)).1
  have c2' := (cc 2 (by decide)).1
  have c3' := (cc 3 (by decide)).1
  simp only [KFr, eab, List.getElem_cons_zero, List.getElem_cons_succ, List.getD_cons_zero, List.getD_cons_succ, Nat.add_zero] at c0 c1' c2' c3'
  exact ⟨g, off, rfl, h1, h2, h3, hk', A1, c1, A2, c2, eab, i0', i1', c0, c1', c2', c3', fun j hj => (cc j hj).2⟩
theorem OwnFr.reads {w : World} {base n cap : Nat} {ao : Option Addr} {fs : List Frm} {vss : List (List Value)} (h : OwnFr w base (.slice ao n cap) fs vss) : n = fs.length ∧ ReadsFr w ao fs := by
  obtain ⟨_, _, e, hm1, hm2⟩ := h.row.shape
  injection e with e1 e2 e3
  refine ⟨e2, by unfold maxLen at hm2; omega, fun h0 => ?_⟩
  obtain ⟨g, off, rfl, _⟩ := h.at_ (k := 0) h0
  refine ⟨_, rfl, fun k hk => ?_⟩
  obtain ⟨g', off', e, _, _, _, _, A1, c1, A2, c2, _, i0, i1, c0, c1', c2', c3', _⟩ := h.at_ hk
  cases e
  rw [Addr.add_lit]
  exact ⟨c0, c1', ⟨A1, c1, c2', CRow.ints i0⟩, A2, c2, c3', CRow.ints i1⟩
/-- An own state. -/
structure OwnS (w : World) (base : Nat) (s : Stt) (fv ov : Value) (vss : List (List Value)) : Prop where
  fr : OwnFr w base fv s.frames vss
  out : CRow w base 3 1 ov s.out.length (intsV s.out)
  sep : ∀ u ∈ fv :: vss.flatten, ∀ b, ob u = some b → ob ov ≠ some b
theorem OwnS.below {w w1 : World} {base : Nat} {s : Stt} {fv ov : Value} {vss : List (List Value)} (h : OwnS w base s fv ov vss) (hb : Below w.heap.size w w1) : OwnS w1 base s fv ov vss := ⟨OwnG.below h.fr hb, h.out.below hb, h.sep⟩
theorem OwnS.mono {w : World} {base base' : Nat} {s : Stt} {fv ov : Value} {vss : List (List Value)} (h : OwnS w base s fv ov vss) (hb : base' ≤ base) : OwnS w base' s fv ov vss := ⟨OwnG.mono h.fr hb, h.out.mono hb, h.sep⟩

def beginL (args : List Int) (L : Nat) : List Int := args ++ List.replicate (L - args.length) 0
theorem beginL_len {args : List Int} {L : Nat} (h : args.length ≤ L) : (beginL args L).length = L := by simp [beginL]; omega
theorem copy_begin {w : World} {g L c : Nat} {A : Option Addr} {args : List Int} (h : RowAt 3 g (intsV (List.replicate L 0)) w) (hr : ReadsI w A args) (hle : args.length ≤ L) :
    ∃ w', (Builtin.copy_ #[32, 32] 3 #[.slice (some ⟨g, 0, none⟩) L L, .slice A args.length c]).run Tryd.prog w = .ok (.int .i64 args.length) w' ∧ RowAt 3 g (intsV (beginL args L)) w' ∧ (∀ w0, Below w0.heap.size w0 w → w0.heap.size ≤ g → Below w0.heap.size w0 w') := by
  by_cases h0 : args.length = 0
  · obtain rfl : args = [] := List.eq_nil_of_length_eq_zero h0
    refine ⟨w, run_copy_none w 32 32 3 3 _ _ _ _ _ _ Tryd.underlying32 size_int (by simp), by simpa [beginL] using h, fun w0 hb _ => hb⟩
  · obtain ⟨ad, rfl, hc⟩ := hr.2 (by omega)
    have hrun := run_copy_row (P := Tryd.prog) w 32 32 3 3 g 0 L L ad args.length c _ 3 (intsV args) Tryd.underlying32 size_int h (by rw [intsV_len]; exact (Nat.min_eq_left hle).symm) (fun j v hj => by
      obtain ⟨hj', rfl⟩ := List.getElem?_eq_some_iff.1 hj
      have hj2 : j < args.length := by simpa [intsV] using hj'
      rw [hc j hj2]; simp [intsV]) (by simp [intsV]; omega) (by intro v hv; simp [intsV] at hv; obtain ⟨_, _, rfl⟩ := hv; rfl)
    rw [show goInt (intsV args).length = .int .i64 args.length by rw [intsV_len]; rfl] at hrun
    refine ⟨_, hrun, ?_, fun w0 hb hg => below_setRow hb hg _⟩
    have e := setRow_heap w g (intsV (List.replicate L 0)).toArray (intsV (beginL args L)).toArray 3 (0, 0) h
    unfold RowAt
    rw [← e]
    have e2 : (List.take 0 (intsV (List.replicate L 0)).toArray.toList ++ intsV args ++ List.drop (0 + (intsV args).length) (intsV (List.replicate L 0)).toArray.toList) = intsV (beginL args L) := by
      unfold beginL intsV
      rw [List.map_append]
      simp only [List.take_zero, List.nil_append, Nat.zero_add, List.length_map, List.map_replicate, List.drop_replicate]
    rw [e2]
/-- What 'Begin' answers. -/
def BeginE (fn : Int) (args : List Int) (L : Nat) (w : World) (e : Ending) (w' : World) : Prop :=
  ∃ g, e = .returned (.agg #[.int .i64 fn, .int .i64 0, .slice (some ⟨g, 0, none⟩) L L, .slice none 0 0]) ∧ RowAt 3 g (intsV (beginL args L)) w' ∧ w.heap.size ≤ g ∧ Below w.heap.size w w'
set_option maxRecDepth 100000 in
set_option maxHeartbeats 1000000 in
theorem begin_any (P : Addr) (p : List Fn) (Ap A : Option Addr) (cp c n L : Nat) (args : List Int) (w : World) (hP : w.cell? P = some (.slice Ap p.length cp)) (hr : ReadsF w Ap p) (hn : n < p.length) (hL : p[n].locals = L) (h8 : L ≤ 100) (ha : ReadsI w A args) (hle : args.length ≤ L) :
    Calls Tryd.prog 84 #[.pointer (some P), .int .i64 n, .slice A args.length c] w (BeginE n args L w) := by
  obtain ⟨w1, hw1⟩ : ∃ w1, w.alloc (.cells #[.int .i64 0, .int .i64 0, .slice none 0 0, .slice none 0 0] 149) = w1 := ⟨_, rfl⟩
  have b1 : Below w.heap.size w w1 := hw1 ▸ below_alloc (Below.refl _ _) _
  have z1 : w1.heap.size = w.heap.size + 1 := by rw [← hw1]; simp
  have r1 : RowAt 149 w.heap.size [.int .i64 0, .int .i64 0, .slice none 0 0, .slice none 0 0] w1 := hw1 ▸ RowAt.new _ _ w
  have p1 := cell_below b1 hP
  obtain ⟨ad, rfl, Ac, cc, hF⟩ := fnAt_of hr b1 hn
  have k1 := hF.c1
  rw [hL] at k1
  have hmk := make_ints L h8 w1
  obtain ⟨w2, hw2⟩ : ∃ w2, w1.alloc (.cells (intsV (List.replicate L 0)).toArray 3) = w2 := ⟨_, rfl⟩
  have b2 : Below w1.heap.size w1 w2 := hw2 ▸ below_alloc (Below.refl _ _) _
  have r2 : RowAt 3 w1.heap.size (intsV (List.replicate L 0)) w2 := hw2 ▸ RowAt.new _ _ w1
  obtain ⟨w3, hrun, hr3, hb3⟩ := copy_begin (c := c) r2 ((ha.below b1).below b2) hle
  have b3 := hb3 w (below_trans b1 b2) (by omega)
  have b13 := hb3 w1 b2 (Nat.le_refl _)
  have q1 := r1.below b13
  have f0 := q1.free 0
  have f1 := q1.free 1
  have f2 := q1.free 2
  have f3 := q1.free 3
  have g0 := q1.cell (k := 0) (by simp)
  have g1 := q1.cell (k := 1) (by simp)
  have g2 := q1.cell (k := 2) (by simp)
  have g3 := q1.cell (k := 3) (by simp)
  simp only [List.getElem_cons_succ, List.getElem_cons_zero] at g0 g1 g2 g3
  have s1 := q1.put 0 (.int .i64 n)
  have s2 := s1.put 1 (.int .i64 0)
  have s3 := s2.put 2 (.slice (some ⟨w1.heap.size, 0, none⟩) L L)
  have s4 := s3.put 3 (.slice none 0 0)
  have e0 := s1.cell (k := 0) (by simp)
  have e1 := s2.cell (k := 1) (by simp)
  have e2 := s3.cell (k := 2) (by simp)
  have e3 := s4.cell (k := 3) (by simp)
  simp only [List.set_cons_zero, List.set_cons_succ, List.getElem_cons_succ, List.getElem_cons_zero] at e0 e1 e2 e3
  have kb : ∀ (W : World) (k : Nat) (u : Value), Below w.heap.size w W → Below w.heap.size w (W.setCell ⟨w.heap.size, k, none⟩ u) := fun W k u hb => hb.setCell (p := ⟨w.heap.size, k, none⟩) (Nat.le_refl _) u
  have b4 := kb _ 3 (.slice none 0 0) (kb _ 2 (.slice (some ⟨w1.heap.size, 0, none⟩) L L) (kb _ 1 (.int .i64 0) (kb _ 0 (.int .i64 n) b3)))
  have kr : ∀ (W : World) (k : Nat) (u : Value), RowAt 3 w1.heap.size (intsV (beginL args L)) W → RowAt 3 w1.heap.size (intsV (beginL args L)) (W.setCell ⟨w.heap.size, k, none⟩ u) := fun W k u h => h.keeps (g := w.heap.size) (Keeps.put (Keeps.refl _ _) k u) (by omega)
  have r4 := kr _ 3 (.slice none 0 0) (kr _ 2 (.slice (some ⟨w1.heap.size, 0, none⟩) L L) (kr _ 1 (.int .i64 0) (kr _ 0 (.int .i64 n) hr3)))
  have B4 := Lib.hid b4
  have R4 := Lib.hid r4
  have E0 := Lib.hid e0
  have E1 := Lib.hid e1
  have E2 := Lib.hid e2
  have E3 := Lib.hid e3
  clear s1 s2 s3 s4 e0 e1 e2 e3 kb b4 kr r4
  rw [hw2] at hmk
  have B3 := Lib.hid b3
  have R3 := Lib.hid hr3
  have Z1 := Lib.hid z1
  have hpn := hr.1
  clear b1 b2 r1 r2 hr3 hb3 b3 b13 q1 hw2 hP hr hF ha z1
  go_enter Tryd.func84, Tryd.ntmps84
  go_wp2_with fail
  exact bodyPost_ret (v := .agg #[.int .i64 n, .int .i64 0, .slice (some ⟨w1.heap.size, 0, none⟩) L L, .slice none 0 0]) (by simp [results, Tryd.results84, go_sem, E0.out, E1.out, E2.out, E3.out]) rfl ⟨w1.heap.size, rfl, R4.out, by have := Z1.out; omega, B4.out⟩
end Go.Proofs.YtpfgklkdldkajaaDoor
