/- '(*book).runs' answers what the plain definition says. Conditions: the book, the frames lie in memory as they are said; the program is verified. -/
import Derived.Test.YtpfgklkdldkajaaDoorAfter
namespace Go.Proofs.YtpfgklkdldkajaaDoor
open Go.RowKit

theorem RetD.quiet {P : Program} {f : FuncId} {args : Array Value} {w : World} {k n : Nat} {v : Value} (h : Calls P f args (w.drewN (k + n)) (RetD v (w.drewN (k + n)))) : Calls P f args (w.drewN (k + n)) fun e w'' => e = .returned v ∧ ∃ m, w'' = w.drewN (k + m) :=
  h.mono fun _ _ ⟨he, j, hm⟩ => ⟨he, n + j, by rw [hm, drewN_two, Nat.add_assoc]⟩
theorem RetD.quiet0 {P : Program} {f : FuncId} {args : Array Value} {w : World} {n : Nat} {v : Value} (h : Calls P f args (w.drewN n) (RetD v (w.drewN n))) : Calls P f args (w.drewN n) fun e w'' => e = .returned v ∧ ∃ m, w'' = w.drewN m :=
  h.mono fun _ _ ⟨he, j, hm⟩ => ⟨he, n + j, by rw [hm, drewN_two]⟩
theorem retD_back {b : Bool} {v : Value} {w w' : World} {n : Nat} (e : v = .bool b) (h : ∃ m, w' = (w.drewN n).drewN m ∨ w' = w.drewN m) : RetD (.bool b) w (.returned v) w' := by
  obtain ⟨m, h | h⟩ := h
  · exact ⟨by rw [e], n + m, by rw [h, drewN_two]⟩
  · exact ⟨by rw [e], m, h⟩
/-- What a frame that may be has. -/
theorem frameB_in {p : List Fn} {f : Frm} {less : Int} (hv : verifyOf p = 0) (h : frameB p f less = true) : ∃ n m : Nat, f.fn = n ∧ f.pc = m ∧ ∃ hn : n < p.length, m < p[n].code.length := by
  have h0 : 0 ≤ heightAt p f.fn f.pc := by
    unfold frameB at h
    simp only [Bool.and_eq_true, decide_eq_true_eq] at h
    exact h.1.1.1.1
  by_cases h1 : 0 ≤ f.fn ∧ f.fn < p.length
  · obtain ⟨n, hn⟩ := Int.eq_ofNat_of_zero_le h1.1
    have hnl : n < p.length := by omega
    by_cases h2 : f.pc < 0
    · rw [heightAt_neg h2] at h0; exact absurd h0 (by decide)
    · obtain ⟨m, hm⟩ := Int.eq_ofNat_of_zero_le (Int.not_lt.1 h2)
      by_cases h3 : m < p[n].code.length
      · exact ⟨n, m, hn, hm, hnl, h3⟩
      · rw [hn, heightAt_far hv hnl (by omega)] at h0; exact absurd h0 (by decide)
  · rw [heightAt_no h1] at h0; exact absurd h0 (by decide)
theorem behind_called {p : List Fn} {fn pc called : Int} (hv : verifyOf p = 0) (h : behindB p fn pc called = true) : 0 ≤ called ∧ called < 8 := by
  unfold behindB at h
  simp only [Bool.and_eq_true, decide_eq_true_eq] at h
  obtain ⟨_, hc⟩ := h
  unfold codeAt at hc
  split at hc
  · rename_i g hg
    obtain ⟨hk, rfl⟩ := List.getElem?_eq_some_iff.1 hg
    obtain ⟨hj, hx⟩ := List.getElem?_eq_some_iff.1 hc
    have hm := may_mem (fnMay_of (packs_fn (verifyOf_packs hv) hk)).2.2.2.2 hj
    rw [hx] at hm
    have := (may_of hm).2.2 (by simp)
    simp only [belowOf] at this
    omega
  · cases hc
theorem lessB_neg {p : List Fn} {f g : Frm} (hv : verifyOf p = 0) (h : g.fn < 0) : lessB p f g = false := by
  unfold lessB
  cases hb : behindB p f.fn f.pc g.fn with
  | false => simp
  | true => have := behind_called hv hb; omega
theorem runs_false {p : List Fn} {fs : List Frm} {k : Nat} (hk : k + 1 < fs.length) (h : lessB p fs[k] fs[k + 1] = false) : runsB p fs = false := by
  unfold runsB
  have : runsFrom p fs = false := by
    cases hr : runsFrom p fs with
    | false => rfl
    | true => have := ((runs_iff p fs (by omega)).1 hr).1 k hk; rw [h] at this; cases this
  rw [this, Bool.and_false]
theorem runs_last {p : List Fn} {fs : List Frm} {T : Nat} (h1 : fs.length = T + 1) (h12 : fs.length ≤ 12) (h : ∀ i (hi : i + 1 < fs.length), i < T → lessB p fs[i] fs[i + 1] = true) : runsB p fs = frameB p (fs[T]'(by omega)) 0 := by
  unfold runsB
  rw [decide_eq_true (show 1 ≤ fs.length by omega), decide_eq_true h12, Bool.true_and, Bool.true_and, Bool.eq_iff_iff, runs_iff p fs (by omega)]
  have e : fs.length - 1 = T := by omega
  constructor
  · rintro ⟨_, h2⟩
    simp only [e] at h2; exact h2
  · intro h2
    refine ⟨fun i hi => h i hi (by omega), ?_⟩
    simp only [e]; exact h2
set_option maxRecDepth 100000 in
set_option maxHeartbeats 4000000 in
theorem runs_any (B P : Addr) (p : List Fn) (Ap H A : Option Addr) (cp ch c : Nat) (fs : List Frm) (w : World) (hv : verifyOf p = 0) (hb : BookAt w B P p Ap cp H ch) (hf : ReadsFr w A fs) (hc : fs.length ≤ c) :
    Calls Tryd.prog 86 #[.pointer (some B), .slice A fs.length c] w (RetD (.bool (runsB p fs)) w) := by
  have HB := Lib.hid hb
  have HFS := Lib.hid hf
  have HV := Lib.hid hv
  have b0 := hb.b0
  have b1 := hb.b1
  have hn := hf.1
  clear hv hb hf
  by_cases l1 : fs.length < 1
  · have HE := Lib.hid (show runsB p fs = false by unfold runsB; rw [decide_eq_false (by omega)]; rfl)
    have d1 : decide (fs.length < 1) = true := by simpa using l1
    go_enter Tryd.func86, Tryd.ntmps86
    go_wp2_with fail
    go_ret
    exact retD_of (by rw [HE.out]; rfl) ⟨0, rfl⟩
  have d1 : decide (fs.length < 1) = false := by simpa using l1
  by_cases l2 : 12 < fs.length
  · have HE := Lib.hid (show runsB p fs = false by unfold runsB; rw [decide_eq_true (show 1 ≤ fs.length by omega), decide_eq_false (show ¬ fs.length ≤ 12 by omega)]; rfl)
    have d2 : decide (12 < fs.length) = true := by simpa using l2
    go_enter Tryd.func86, Tryd.ntmps86
    go_wp2_with fail
    go_ret
    exact retD_of (by rw [HE.out]; rfl) ⟨0, rfl⟩
  have d2 : decide (12 < fs.length) = false := by simpa using l2
  obtain ⟨T, hT⟩ : ∃ T, fs.length = T + 1 := ⟨fs.length - 1, by omega⟩
  have hT12 : T ≤ 11 := by omega
  obtain ⟨ad, rfl, hx⟩ := HFS.out.at_ (Below.refl _ _) (k := T) (by omega)
  clear hx
  rw [hT] at d1 d2 hn hc ⊢
  have HT := Lib.hid hT
  clear l1 l2 hT
  go_enter Tryd.func86, Tryd.ntmps86
  go_wp2_with fail
  clear d1 d2
  go_loopw [22] (fun i wr => ∃ k : Nat, k ≤ T ∧ i = .int .i64 k ∧ (∀ i (hi : i + 1 < fs.length), i < k → lessB p fs[i] fs[i + 1] = true) ∧ ∃ n, wr = w.drewN n) (fun i _ => T - (intOf i).toNat)
  case atStart => exact ⟨0, Nat.zero_le _, rfl, fun _ _ h => absurd h (Nat.not_lt_zero _), 0, rfl⟩
  case round =>
    obtain ⟨k, hk, rfl, hvv, n, rfl⟩ := hrel
    have HVV := Lib.hid hvv
    clear hvv
    by_cases hlt : k < T
    · have hk0 : k < fs.length := by have := HT.out; omega
      have hk1 : k + 1 < fs.length := by have := HT.out; omega
      obtain ⟨ad', e, hfk⟩ := HFS.out.at_ (Below.refl _ _) hk0
      cases e
      obtain ⟨ad', e, hfl⟩ := HFS.out.at_ (Below.refl _ _) hk1
      cases e
      have g0 := hfl.1
      have HFK := Lib.hid hfk
      have HM := Lib.hid (fun m => bmay_any B P (ad.add (k * 4)) p Ap H cp ch fs[k] 1 (w.drewN m) (by omega) HV.out (HB.out.below (below_drew (Below.refl _ _) _)) (hfk.below (below_drew (Below.refl _ _) _)))
      obtain ⟨x1, ex1⟩ : ∃ x1, frameB p fs[k] 1 = x1 := ⟨_, rfl⟩
      rw [ex1] at HM
      have EX1 := Lib.hid ex1
      have q1 : IntKind.i64.wrap ((k : Int) + 1) = k + 1 := IntWalk.i64_in _ (by omega)
      have q2 : (0 : Int) ≤ k + 1 := by omega
      have q3 : ((k : Int) + 1).toNat = k + 1 := by omega
      clear hfk hfl
      cases x1 with
      | false =>
        have HE := Lib.hid (runs_false (p := p) hk1 (show lessB p fs[k] fs[k + 1] = false by unfold lessB; rw [ex1]; rfl))
        clear ex1
        go_wp2_with fail
        go_quiet ((go_at_call 109; with_reducible (first | exact RetD.quiet0 (HM.out _) | exact RetD.quiet (HM.out _))))
        go_wp2_with fail
        go_ret
        exact retD_back (by rw [HE.out]; rfl) ⟨_, by first | exact .inl rfl | exact .inr rfl⟩
      | true =>
        obtain ⟨n', m', hn', hm', hnl, hml⟩ := frameB_in HV.out ex1
        have g1 := HFK.out.1
        have g2 := HFK.out.2.1
        rw [hn'] at g1
        rw [hm'] at g2
        by_cases hneg : fs[k + 1].fn < 0
        · have HE := Lib.hid (runs_false (p := p) hk1 (lessB_neg (f := fs[k]) HV.out hneg))
          have d3 : decide (fs[k + 1].fn < 0) = true := by simpa using hneg
          clear ex1 hn' hm' hml hneg
          go_wp2_with fail
          go_quiet ((go_at_call 109; with_reducible (first | exact RetD.quiet0 (HM.out _) | exact RetD.quiet (HM.out _))))
          go_wp2_with fail
          go_ret
          exact retD_back (by rw [HE.out]; rfl) ⟨_, by first | exact .inl rfl | exact .inr rfl⟩
        · have d3 : decide (fs[k + 1].fn < 0) = false := by simpa using hneg
          have HA := Lib.hid (fun m => after_any P p Ap H cp ch n' m' fs[k + 1].fn (w.drewN m) HV.out hnl (HB.out.below (below_drew (Below.refl _ _) _)).hp (HB.out.below (below_drew (Below.refl _ _) _)).rp (HB.out.below (below_drew (Below.refl _ _) _)).rh)
          obtain ⟨x2, ex2⟩ : ∃ x2, behindB p n' m' fs[k + 1].fn = x2 := ⟨_, rfl⟩
          rw [ex2] at HA
          have EX2 := Lib.hid (show lessB p fs[k] fs[k + 1] = x2 by unfold lessB; rw [ex1, hn', hm', ex2]; rfl)
          clear ex1 ex2 hn' hm' hml hneg
          cases x2 with
          | false =>
            have HE := Lib.hid (runs_false (p := p) hk1 EX2.out)
            go_wp2_with fail
            go_quiet ((first | (go_at_call 109; with_reducible (first | exact RetD.quiet0 (HM.out _) | exact RetD.quiet (HM.out _))) | (go_at_call 110; with_reducible (first | exact RetD.quiet0 (HA.out _) | exact RetD.quiet (HA.out _)))))
            go_wp2_with fail
            go_ret
            exact retD_back (by rw [HE.out]; rfl) ⟨_, by first | exact .inl rfl | exact .inr rfl⟩
          | true =>
            go_wp2_with fail
            go_quiet ((first | (go_at_call 109; with_reducible (first | exact RetD.quiet0 (HM.out _) | exact RetD.quiet (HM.out _))) | (go_at_call 110; with_reducible (first | exact RetD.quiet0 (HA.out _) | exact RetD.quiet (HA.out _)))))
            go_wp2_with fail
            go_roundw
            case rel => exact ⟨k + 1, by omega, by go_num, fun i hi h => by
              rcases Nat.lt_or_ge i k with h2 | h2
              · exact HVV.out i hi h2
              · obtain rfl : i = k := by omega
                exact EX2.out, by first | exact ⟨_, rfl⟩ | exact ⟨_, drewN_two _ _ _⟩⟩
            case measure => simp only [intOf]; omega
    · obtain rfl : k = T := by omega
      have hkT : k < fs.length := by have := HT.out; omega
      obtain ⟨ad', e, hfk⟩ := HFS.out.at_ (Below.refl _ _) hkT
      cases e
      have HM := Lib.hid (fun m => bmay_any B P (ad.add (k * 4)) p Ap H cp ch fs[k] 0 (w.drewN m) (by omega) HV.out (HB.out.below (below_drew (Below.refl _ _) _)) (hfk.below (below_drew (Below.refl _ _) _)))
      have HE := Lib.hid (runs_last HT.out (by have := HT.out; omega) HVV.out)
      clear hfk
      go_wp2_with fail
      refine (HM.out _).mono ?_
      rintro e w' ⟨rfl, m, rfl⟩
      go_wp2_with fail
      go_ret
      exact retD_of (by rw [HE.out]; rfl) (by first | exact ⟨_, rfl⟩ | exact ⟨_, drewN_two _ _ _⟩)
end Go.Proofs.YtpfgklkdldkajaaDoor
