/- '(*book).may', 'frame.After' answer what the plain definitions say. Conditions: the book, the frame lie in memory as they are said; the program is verified. 'frame.After' answers what the plain definition says. Conditions: the program, its heights lie in memory as they are said; the program is verified. '(*book).runs' answers what the plain definition says. Conditions: the book, the frames lie in memory as they are said; the program is verified. -/
import Derived.Test.YtjghibdlmmjobaaGreatDoorGZ10
namespace Go.Proofs.YtjghibdlmmjobaaGreatDoor
open Go.RowKit

theorem frame_parts {p : List Fn} {f : Frm} {less h : Int} {g : Fn} {n : Nat} (hn : f.fn = n) (hg : p[n]? = some g) (hh : heightAt p f.fn f.pc = h) (h0 : 0 ≤ h) :
    frameB p f less = (decide ((f.locals.length : Int) = g.locals) && decide ((f.stack.length : Int) = h - less) && f.locals.all isNum && f.stack.all isNum) := by
  unfold frameB localsAt
  rw [hh, hn, Int.toNat_natCast, hg, decide_eq_true h0]
  rfl
/-- A callee that draws nothing, behind draws. -/
theorem quiet_more {P : Program} {f : FuncId} {args : Array Value} {w : World} {k n : Nat} {v : Value} (h : Calls P f args (w.drewN (k + n)) fun e w' => e = .returned v ∧ w' = w.drewN (k + n)) : Calls P f args (w.drewN (k + n)) fun e w'' => e = .returned v ∧ ∃ m, w'' = w.drewN (k + m) :=
  h.mono fun _ _ ⟨he, hm⟩ => ⟨he, n, hm⟩
theorem beq_dec (a b : Int) : (a == b) = decide (a = b) := by by_cases h : a = b <;> simp [h]
theorem cons_num (a b : Bool) : (a && b) = true ↔ a = true ∧ b = true := by cases a <;> cases b <;> simp
set_option maxRecDepth 100000 in
set_option maxHeartbeats 4000000 in
theorem bmay_any (B P F : Addr) (p : List Fn) (Ap H : Option Addr) (cp ch : Nat) (f : Frm) (less : Int) (w : World) (h01 : 0 ≤ less ∧ less ≤ 1) (hv : verifyOf p = 0) (hb : BookAt w B P p Ap cp H ch) (hf : FrmAt w F f) :
    Calls Tryz.prog 143 #[.pointer (some B), .pointer (some F), .int .i64 less] w (RetD (.bool (frameB p f less)) w) := by
  obtain ⟨fn, pc, ls, ss⟩ := f
  obtain ⟨f0, f1, ⟨A1, c1, f2, r1⟩, A2, c2, f3, r2⟩ := hf
  obtain ⟨b0, b1, bP, rp, rh⟩ := hb
  simp only at f0 f1 f2 f3 r1 r2
  have HV := Lib.hid hv
  have hpn := rp.1
  clear hv
  by_cases n1 : fn < 0
  · have HE := Lib.hid (frameB_no (p := p) (f := ⟨fn, pc, ls, ss⟩) (less := less) (heightAt_no (by simp only; omega)))
    have d1 : decide (fn < 0) = true := by simpa using n1
    go_enter Tryz.func143, Tryz.ntmps143
    go_wp2_with fail
    go_quiet (fail)
    go_wp2_with fail
    go_ret
    exact retD_of (by rw [HE.out]; rfl) ⟨_, rfl⟩
  obtain ⟨n, rfl⟩ := Int.eq_ofNat_of_zero_le (Int.not_lt.1 n1)
  have d1 : decide ((n : Int) < 0) = false := by simp
  by_cases n2 : p.length ≤ n
  · have HE := Lib.hid (frameB_no (p := p) (f := ⟨n, pc, ls, ss⟩) (less := less) (heightAt_no (by simp only; omega)))
    have d2 : decide (p.length ≤ n) = true := by simpa using n2
    go_enter Tryz.func143, Tryz.ntmps143
    go_wp2_with fail
    go_quiet (fail)
    go_wp2_with fail
    go_ret
    exact retD_of (by rw [HE.out]; rfl) ⟨_, rfl⟩
  have hn : n < p.length := by omega
  have d2 : decide (p.length ≤ n) = false := by simpa using hn
  by_cases n3 : pc < 0
  · have HE := Lib.hid (frameB_no (p := p) (f := ⟨n, pc, ls, ss⟩) (less := less) (heightAt_neg n3))
    have d3 : decide (pc < 0) = true := by simpa using n3
    go_enter Tryz.func143, Tryz.ntmps143
    go_wp2_with fail
    go_quiet (fail)
    go_wp2_with fail
    go_ret
    exact retD_of (by rw [HE.out]; rfl) ⟨_, rfl⟩
  obtain ⟨m, rfl⟩ := Int.eq_ofNat_of_zero_le (Int.not_lt.1 n3)
  have d3 : decide ((m : Int) < 0) = false := by simp
  obtain ⟨ad, rfl, Ac, cc, hF⟩ := fnAt_of rp (Below.refl _ _) hn
  have k0 := hF.c0
  have k1 := hF.c1
  have k2 := hF.c2
  have hcl := (codeMay_len (fnMay_of (packs_fn (verifyOf_packs HV.out) hn)).2.2.2.2).2
  by_cases n4 : p[n].code.length ≤ m
  · have HE := Lib.hid (frameB_no (p := p) (f := ⟨n, m, ls, ss⟩) (less := less) (heightAt_far HV.out hn (by simp only; omega)))
    have d4 : decide (p[n].code.length ≤ m) = true := by simpa using n4
    go_enter Tryz.func143, Tryz.ntmps143
    go_wp2_with fail
    go_quiet (fail)
    go_wp2_with fail
    go_ret
    exact retD_of (by rw [HE.out]; rfl) ⟨_, rfl⟩
  have hm : m < p[n].code.length := by omega
  have d4 : decide (p[n].code.length ≤ m) = false := by simpa using hm
  obtain ⟨hmb, hh, hrange⟩ := heightAt_in HV.out hn hm
  have hbl : n < (bookOf p).length := by simpa [bookOf] using hn
  obtain ⟨ah, rfl, Hn, cn, g0, gr⟩ := rh.at_ hbl
  rw [bookOf_at hn hbl] at g0 gr
  obtain ⟨an, rfl, g1⟩ := gr.at_ hmb
  have hbn : (heightsF p p[n]).1.length ≤ 9223372036854775807 := gr.1
  obtain ⟨h, eh⟩ : ∃ h, (heightsF p p[n]).1[m] = h := ⟨_, rfl⟩
  rw [eh] at g1 hh hrange
  obtain ⟨L, eL⟩ : ∃ L, (heightsF p p[n]).1.length = L := ⟨_, rfl⟩
  rw [eL] at g0 hmb hbn
  have HF := Lib.hid hF
  have HH := Lib.hid hh
  clear eh eL gr hF rh rp hh n1 n2 n3 n4
  by_cases e1 : h = -1
  · have HE := Lib.hid (frameB_no (p := p) (f := ⟨n, m, ls, ss⟩) (less := less) (HH.out.trans e1))
    have t1 : (h != -1) = false := by simpa using e1
    clear e1 hrange
    go_enter Tryz.func143, Tryz.ntmps143
    go_wp2_with fail
    go_quiet (fail)
    go_wp2_with fail
    go_quiet (fail)
    go_wp2_with fail
    go_quiet (fail)
    go_wp2_with fail
    go_ret
    exact retD_of (by rw [HE.out]; rfl) (by simp only [drewN_two]; exact ⟨_, rfl⟩)
  · obtain ⟨h0, h12⟩ := hrange.resolve_left e1
    have HE := Lib.hid (frame_parts (p := p) (f := ⟨n, m, ls, ss⟩) (less := less) (g := p[n]) rfl (List.getElem?_eq_getElem hn) HH.out h0)
    simp only at HE
    have t1 : (h != -1) = true := by simpa using e1
    have q1 : IntKind.i64.wrap (h - less) = h - less := IntWalk.i64_in _ (by omega)
    have HLS := Lib.hid (wrapAll_any A1 c1 ls)
    have HSS := Lib.hid (wrapAll_any A2 c2 ss)
    have R1 := Lib.hid r1
    have R2 := Lib.hid r2
    obtain ⟨w1, rfl⟩ : ∃ x, x = w := ⟨_, rfl⟩
    clear e1 hrange r1 r2
    by_cases e2 : (ls.length : Int) = p[n].locals
    · have t2 : ((ls.length : Int) == p[n].locals) = true := by simpa using e2
      by_cases e3 : (ss.length : Int) = h - less
      · have t3 : ((ss.length : Int) == h - less) = true := by simpa using e3
        have E2 := Lib.hid e2
        have E3 := Lib.hid e3
        clear e2 e3
        obtain ⟨x1, ex1⟩ : ∃ x1, ls.all isNum = x1 := ⟨_, rfl⟩
        obtain ⟨x2, ex2⟩ : ∃ x2, ss.all isNum = x2 := ⟨_, rfl⟩
        rw [ex1] at HLS HE
        rw [ex2] at HSS HE
        clear ex1 ex2
        cases x1
        all_goals
          go_enter Tryz.func143, Tryz.ntmps143
          go_wp2_with fail
          go_quiet (fail)
          go_wp2_with fail
          go_quiet (fail)
          go_wp2_with fail
          go_quiet ((go_at_call 66; with_reducible (first | exact quiet_more (HLS.out _ (R1.out.below (below_drew (Below.refl _ _) _))) | exact quiet_more (HSS.out _ (R2.out.below (below_drew (Below.refl _ _) _))))))
          go_wp2_with fail
          go_ret
          exact retD_of (by rw [HE.out, decide_eq_true E2.out, decide_eq_true E3.out]; rfl) (by simp only [drewN_two]; exact ⟨_, rfl⟩)
      · have t3 : ((ss.length : Int) == h - less) = false := by simpa using e3
        have E3 := Lib.hid e3
        clear e2 e3
        go_enter Tryz.func143, Tryz.ntmps143
        go_wp2_with fail
        go_quiet (fail)
        go_wp2_with fail
        go_quiet (fail)
        go_wp2_with fail
        go_quiet (fail)
        go_wp2_with fail
        go_ret
        exact retD_of (by rw [HE.out, decide_eq_false E3.out]; simp) (by simp only [drewN_two]; exact ⟨_, rfl⟩)
    · have t2 : ((ls.length : Int) == p[n].locals) = false := by simpa using e2
      have E2 := Lib.hid e2
      clear e2
      go_enter Tryz.func143, Tryz.ntmps143
      go_wp2_with fail
      go_quiet (fail)
      go_wp2_with fail
      go_quiet (fail)
      go_wp2_with fail
      go_quiet (fail)
      go_wp2_with fail
      go_ret
      exact retD_of (by rw [HE.out, decide_eq_false E2.out]; rfl) (by simp only [drewN_two]; exact ⟨_, rfl⟩)
end Go.Proofs.YtjghibdlmmjobaaGreatDoor

namespace Go.Proofs.YtjghibdlmmjobaaGreatDoor
open Go.RowKit

theorem codeAt_in {p : List Fn} {n m : Nat} (hn : n < p.length) (hm : m < p[n].code.length) : codeAt p n m = some p[n].code[m] := by
  unfold codeAt
  rw [Int.toNat_natCast, List.getElem?_eq_getElem hn, Int.toNat_natCast]
  exact List.getElem?_eq_getElem hm
theorem behind_no {p : List Fn} {fn pc called : Int} (h : heightAt p fn (pc - 1) = -1) : behindB p fn pc called = false := by unfold behindB; rw [h]; rfl
theorem behind_yes {p : List Fn} {n m : Nat} {pc called h : Int} (hp : pc - 1 = m) (hn : n < p.length) (hm : m < p[n].code.length) (hh : heightAt p n m = h) (h0 : 0 ≤ h) : behindB p n pc called = eqIns p[n].code[m] ⟨14, called⟩ := by
  unfold behindB
  rw [hp, hh, decide_eq_true h0, codeAt_in hn hm, Bool.true_and]
  rw [Bool.eq_iff_iff, eqIns_iff]
  simp
set_option maxRecDepth 100000 in
set_option maxHeartbeats 4000000 in
theorem after_any (P : Addr) (p : List Fn) (Ap H : Option Addr) (cp ch : Nat) (n : Nat) (pc called : Int) (w : World) (hv : verifyOf p = 0) (hn : n < p.length) (hp : w.cell? P = some (.slice Ap p.length cp)) (rp : ReadsF w Ap p) (rh : ReadsII w H (bookOf p)) :
    Calls Tryz.prog 144 #[.pointer (some P), .slice H p.length ch, .int .i64 n, .int .i64 pc, .int .i64 called] w (RetD (.bool (behindB p n pc called)) w) := by
  have HV := Lib.hid hv
  have hpn := rp.1
  clear hv
  by_cases n1 : 0 < pc
  case neg =>
    have HE := Lib.hid (behind_no (called := called) (heightAt_neg (p := p) (fn := n) (pc := pc - 1) (by omega)))
    have d1 : decide (0 < pc) = false := by simpa using n1
    go_enter Tryz.func144, Tryz.ntmps144
    go_wp2_with fail
    go_ret
    exact retD_of (by rw [HE.out]; rfl) ⟨0, rfl⟩
  obtain ⟨m, hm0⟩ := Int.eq_ofNat_of_zero_le (show 0 ≤ pc - 1 by omega)
  obtain rfl : pc = m + 1 := by omega
  have d1 : decide ((0 : Int) < m + 1) = true := by simp
  obtain ⟨ad, rfl, Ac, cc, hF⟩ := fnAt_of rp (Below.refl _ _) hn
  have k0 := hF.c0
  have k1 := hF.c1
  have k2 := hF.c2
  have hcl := (codeMay_len (fnMay_of (packs_fn (verifyOf_packs HV.out) hn)).2.2.2.2).2
  by_cases n4 : m + 1 ≤ p[n].code.length
  case neg =>
    have HE := Lib.hid (behind_no (called := called) (heightAt_far (pc := (m : Int) + 1 - 1) HV.out hn (by omega)))
    have d4 : decide ((m : Int) + 1 ≤ p[n].code.length) = false := by simp; omega
    clear hm0
    go_enter Tryz.func144, Tryz.ntmps144
    go_wp2_with fail
    go_ret
    exact retD_of (by rw [HE.out]; rfl) ⟨0, rfl⟩
  have hm : m < p[n].code.length := by omega
  have d4 : decide ((m : Int) + 1 ≤ p[n].code.length) = true := by simp; omega
  obtain ⟨hmb, hh, hrange⟩ := heightAt_in HV.out hn hm
  have hbl : n < (bookOf p).length := by simpa [bookOf] using hn
  obtain ⟨ah, rfl, Hn, cn, g0, gr⟩ := rh.at_ hbl
  rw [bookOf_at hn hbl] at g0 gr
  obtain ⟨an, rfl, g1⟩ := gr.at_ hmb
  have hbn : (heightsF p p[n]).1.length ≤ 9223372036854775807 := gr.1
  obtain ⟨adc, eC, i0, i1⟩ := hF.r.at_ (Below.refl _ _) hm
  subst eC
  obtain ⟨h, eh⟩ : ∃ h, (heightsF p p[n]).1[m] = h := ⟨_, rfl⟩
  rw [eh] at g1 hh hrange
  obtain ⟨L, eL⟩ : ∃ L, (heightsF p p[n]).1.length = L := ⟨_, rfl⟩
  rw [eL] at g0 hmb hbn
  obtain ⟨C, eC⟩ : ∃ C, p[n].code.length = C := ⟨_, rfl⟩
  have hmC : m < C := by omega
  rw [eC] at k2 hcl d4
  have q1 : IntKind.i64.wrap ((m : Int) + 1 - 1) = m := by rw [show ((m : Int) + 1 - 1) = m by omega]; exact IntWalk.i64_in _ (by omega)
  have HM := Lib.hid hm0
  have HH := Lib.hid hh
  clear eh eL gr hF rh rp hh n1 n4 hm0
  by_cases e1 : h = -1
  · have HE := Lib.hid (behind_no (called := called) (pc := (m : Int) + 1) (p := p) (fn := n) (by rw [HM.out]; exact HH.out.trans e1))
    have t1 : (h != -1) = false := by simpa using e1
    clear e1 hrange
    clear eC
    go_enter Tryz.func144, Tryz.ntmps144
    go_wp2_with fail
    go_ret
    exact retD_of (by rw [HE.out]; rfl) ⟨0, rfl⟩
  · obtain ⟨h0, h12⟩ := hrange.resolve_left e1
    have HE := Lib.hid (behind_yes (called := called) HM.out hn hm HH.out h0)
    have t1 : (h != -1) = true := by simpa using e1
    have hq := fun (W : World) => eql_of (fun d => eqrIns d W p[n].code[m] ⟨14, called⟩)
    clear e1 hrange eC
    go_enter Tryz.func144, Tryz.ntmps144
    go_wp2_with fail
    go_ret
    exact retD_of (by rw [HE.out]; rfl) ⟨0, rfl⟩
end Go.Proofs.YtjghibdlmmjobaaGreatDoor

namespace Go.Proofs.YtjghibdlmmjobaaGreatDoor
open Go.RowKit

theorem RetD.quiet {P : Program} {f : FuncId} {args : Array Value} {w : World} {k n : Nat} {v : Value} (h : Calls P f args (w.drewN (k + n)) (RetD v (w.drewN (k + n)))) : Calls P f args (w.drewN (k + n)) fun e w'' => e = .returned v ∧ ∃ m, w'' = w.drewN (k + m) :=
  h.mono fun _ _ ⟨he, j, hm⟩ => ⟨he, n + j, by rw [hm, drewN_two, Nat.add_assoc]⟩
theorem RetD.quiet0 {P : Program} {f : FuncId} {args : Array Value} {w : World} {n : Nat} {v : Value} (h : Calls P f args (w.drewN n) (RetD v (w.drewN n))) : Calls P f args (w.drewN n) fun e w'' => e = .returned v ∧ ∃ m, w'' = w.drewN m :=
  h.mono fun _ _ ⟨he, j, hm⟩ => ⟨he, n + j, by rw [hm, drewN_two]⟩
theorem retD_back {b : Bool} {v : Value} {w w' : World} {n : Nat} (e : v = .bool b) (h : ∃ m, w' = (w.drewN n).drewN m ∨ w' = w.drewN m) : RetD (.bool b) w (.returned v) w' := by
  obtain ⟨m, h | h⟩ := h
  · exact ⟨by rw [e], n + m, by rw [h, drewN_two]⟩
  · exact ⟨by rw [e], m, h⟩
/-- What a frame that may be has. -/
theorem frameB_in {p : List Fn} {f : Frm} {less : Int} (hv : verifyOf p = 0) (h : frameB p f less = true) : ∃ n m : Nat, f.fn = n ∧ f.pc = m ∧ ∃ hn : n < p.length, m < p[n].code.length := by
  have h0 : 0 ≤ heightAt p f.fn f.pc := by
    unfold frameB at h
    simp only [Bool.and_eq_true, decide_eq_true_eq] at h
    exact h.1.1.1.1
  by_cases h1 : 0 ≤ f.fn ∧ f.fn < p.length
  · obtain ⟨n, hn⟩ := Int.eq_ofNat_of_zero_le h1.1
    have hnl : n < p.length := by omega
    by_cases h2 : f.pc < 0
    · rw [heightAt_neg h2] at h0; exact absurd h0 (by decide)
    · obtain ⟨m, hm⟩ := Int.eq_ofNat_of_zero_le (Int.not_lt.1 h2)
      by_cases h3 : m < p[n].code.length
      · exact ⟨n, m, hn, hm, hnl, h3⟩
      · rw [hn, heightAt_far hv hnl (by omega)] at h0; exact absurd h0 (by decide)
  · rw [heightAt_no h1] at h0; exact absurd h0 (by decide)
theorem behind_called {p : List Fn} {fn pc called : Int} (hv : verifyOf p = 0) (h : behindB p fn pc called = true) : 0 ≤ called ∧ called < 8 := by
  unfold behindB at h
  simp only [Bool.and_eq_true, decide_eq_true_eq] at h
  obtain ⟨_, hc⟩ := h
  unfold codeAt at hc
  split at hc
  · rename_i g hg
    obtain ⟨hk, rfl⟩ := List.getElem?_eq_some_iff.1 hg
    obtain ⟨hj, hx⟩ := List.getElem?_eq_some_iff.1 hc
    have hm := may_mem (fnMay_of (packs_fn (verifyOf_packs hv) hk)).2.2.2.2 hj
    rw [hx] at hm
    have := (may_of hm).2.2 (by simp)
    simp only [belowOf] at this
    omega
  · cases hc
theorem lessB_neg {p : List Fn} {f g : Frm} (hv : verifyOf p = 0) (h : g.fn < 0) : lessB p f g = false := by
  unfold lessB
  cases hb : behindB p f.fn f.pc g.fn with
  | false => simp
  | true => have := behind_called hv hb; omega
theorem runs_false {p : List Fn} {fs : List Frm} {k : Nat} (hk : k + 1 < fs.length) (h : lessB p fs[k] fs[k + 1] = false) : runsB p fs = false := by
  unfold runsB
  have : runsFrom p fs = false := by
    cases hr : runsFrom p fs with
    | false => rfl
    | true => have := ((runs_iff p fs (by omega)).1 hr).1 k hk; rw [h] at this; cases this
  rw [this, Bool.and_false]
theorem runs_last {p : List Fn} {fs : List Frm} {T : Nat} (h1 : fs.length = T + 1) (h12 : fs.length ≤ 12) (h : ∀ i (hi : i + 1 < fs.length), i < T → lessB p fs[i] fs[i + 1] = true) : runsB p fs = frameB p (fs[T]'(by omega)) 0 := by
  unfold runsB
  rw [decide_eq_true (show 1 ≤ fs.length by omega), decide_eq_true h12, Bool.true_and, Bool.true_and, Bool.eq_iff_iff, runs_iff p fs (by omega)]
  have e : fs.length - 1 = T := by omega
  constructor
  · rintro ⟨_, h2⟩
    simp only [e] at h2; exact h2
  · intro h2
    refine ⟨fun i hi => h i hi (by omega), ?_⟩
    simp only [e]; exact h2
set_option maxRecDepth 100000 in
set_option maxHeartbeats 4000000 in
theorem runs_any (B P : Addr) (p : List Fn) (Ap H A : Option Addr) (cp ch c : Nat) (fs : List Frm) (w : World) (hv : verifyOf p = 0) (hb : BookAt w B P p Ap cp H ch) (hf : ReadsFr w A fs) (hc : fs.length ≤ c) :
    Calls Tryz.prog 101 #[.pointer (some B), .slice A fs.length c] w (RetD (.bool (runsB p fs)) w) := by
  have HB := Lib.hid hb
  have HFS := Lib.hid hf
  have HV := Lib.hid hv
  have b0 := hb.b0
  have b1 := hb.b1
  have hn := hf.1
  clear hv hb hf
  by_cases l1 : fs.length < 1
  · have HE := Lib.hid (show runsB p fs = false by unfold runsB; rw [decide_eq_false (by omega)]; rfl)
    have d1 : decide (fs.length < 1) = true := by simpa using l1
    go_enter Tryz.func101, Tryz.ntmps101
    go_wp2_with fail
    go_ret
    exact retD_of (by rw [HE.out]; rfl) ⟨0, rfl⟩
  have d1 : decide (fs.length < 1) = false := by simpa using l1
  by_cases l2 : 12 < fs.length
  · have HE := Lib.hid (show runsB p fs = false by unfold runsB; rw [decide_eq_true (show 1 ≤ fs.length by omega), decide_eq_false (show ¬ fs.length ≤ 12 by omega)]; rfl)
    have d2 : decide (12 < fs.length) = true := by simpa using l2
    go_enter Tryz.func101, Tryz.ntmps101
    go_wp2_with fail
    go_ret
    exact retD_of (by rw [HE.out]; rfl) ⟨0, rfl⟩
  have d2 : decide (12 < fs.length) = false := by simpa using l2
  obtain ⟨T, hT⟩ : ∃ T, fs.length = T + 1 := ⟨fs.length - 1, by omega⟩
  have hT12 : T ≤ 11 := by omega
  obtain ⟨ad, rfl, hx⟩ := HFS.out.at_ (Below.refl _ _) (k := T) (by omega)
  clear hx
  rw [hT] at d1 d2 hn hc ⊢
  have HT := Lib.hid hT
  clear l1 l2 hT
  go_enter Tryz.func101, Tryz.ntmps101
  go_wp2_with fail
  clear d1 d2
  go_loopw [22] (fun i wr => ∃ k : Nat, k ≤ T ∧ i = .int .i64 k ∧ (∀ i (hi : i + 1 < fs.length), i < k → lessB p fs[i] fs[i + 1] = true) ∧ ∃ n, wr = w.drewN n) (fun i _ => T - (intOf i).toNat)
  case atStart => exact ⟨0, Nat.zero_le _, rfl, fun _ _ h => absurd h (Nat.not_lt_zero _), 0, rfl⟩
  case round =>
    obtain ⟨k, hk, rfl, hvv, n, rfl⟩ := hrel
    have HVV := Lib.hid hvv
    clear hvv
    by_cases hlt : k < T
    · have hk0 : k < fs.length := by have := HT.out; omega
      have hk1 : k + 1 < fs.length := by have := HT.out; omega
      obtain ⟨ad', e, hfk⟩ := HFS.out.at_ (Below.refl _ _) hk0
      cases e
      obtain ⟨ad', e, hfl⟩ := HFS.out.at_ (Below.refl _ _) hk1
      cases e
      have g0 := hfl.1
      have HFK := Lib.hid hfk
      have HM := Lib.hid (fun m => bmay_any B P (ad.add (k * 4)) p Ap H cp ch fs[k] 1 (w.drewN m) (by omega) HV.out (HB.out.below (below_drew (Below.refl _ _) _)) (hfk.below (below_drew (Below.refl _ _) _)))
      obtain ⟨x1, ex1⟩ : ∃ x1, frameB p fs[k] 1 = x1 := ⟨_, rfl⟩
      rw [ex1] at HM
      have EX1 := Lib.hid ex1
      have q1 : IntKind.i64.wrap ((k : Int) + 1) = k + 1 := IntWalk.i64_in _ (by omega)
      have q2 : (0 : Int) ≤ k + 1 := by omega
      have q3 : ((k : Int) + 1).toNat = k + 1 := by omega
      clear hfk hfl
      cases x1 with
      | false =>
        have HE := Lib.hid (runs_false (p := p) hk1 (show lessB p fs[k] fs[k + 1] = false by unfold lessB; rw [ex1]; rfl))
        clear ex1
        go_wp2_with fail
        go_quiet ((go_at_call 143; with_reducible (first | exact RetD.quiet0 (HM.out _) | exact RetD.quiet (HM.out _))))
        go_wp2_with fail
        go_ret
        exact retD_back (by rw [HE.out]; rfl) ⟨_, by first | exact .inl rfl | exact .inr rfl⟩
      | true =>
        obtain ⟨n', m', hn', hm', hnl, hml⟩ := frameB_in HV.out ex1
        have g1 := HFK.out.1
        have g2 := HFK.out.2.1
        rw [hn'] at g1
        rw [hm'] at g2
        by_cases hneg : fs[k + 1].fn < 0
        · have HE := Lib.hid (runs_false (p := p) hk1 (lessB_neg (f := fs[k]) HV.out hneg))
          have d3 : decide (fs[k + 1].fn < 0) = true := by simpa using hneg
          clear ex1 hn' hm' hml hneg
          go_wp2_with fail
          go_quiet ((go_at_call 143; with_reducible (first | exact RetD.quiet0 (HM.out _) | exact RetD.quiet (HM.out _))))
          go_wp2_with fail
          go_ret
          exact retD_back (by rw [HE.out]; rfl) ⟨_, by first | exact .inl rfl | exact .inr rfl⟩
        · have d3 : decide (fs[k + 1].fn < 0) = false := by simpa using hneg
          have HA := Lib.hid (fun m => after_any P p Ap H cp ch n' m' fs[k + 1].fn (w.drewN m) HV.out hnl (HB.out.below (below_drew (Below.refl _ _) _)).hp (HB.out.below (below_drew (Below.refl _ _) _)).rp (HB.out.below (below_drew (Below.refl _ _) _)).rh)
          obtain ⟨x2, ex2⟩ : ∃ x2, behindB p n' m' fs[k + 1].fn = x2 := ⟨_, rfl⟩
          rw [ex2] at HA
          have EX2 := Lib.hid (show lessB p fs[k] fs[k + 1] = x2 by unfold lessB; rw [ex1, hn', hm', ex2]; rfl)
          clear ex1 ex2 hn' hm' hml hneg
          cases x2 with
          | false =>
            have HE := Lib.hid (runs_false (p := p) hk1 EX2.out)
            go_wp2_with fail
            go_quiet ((first | (go_at_call 143; with_reducible (first | exact RetD.quiet0 (HM.out _) | exact RetD.quiet (HM.out _))) | (go_at_call 144; with_reducible (first | exact RetD.quiet0 (HA.out _) | exact RetD.quiet (HA.out _)))))
            go_wp2_with fail
            go_ret
            exact retD_back (by rw [HE.out]; rfl) ⟨_, by first | exact .inl rfl | exact .inr rfl⟩
          | true =>
            go_wp2_with fail
            go_quiet ((first | (go_at_call 143; with_reducible (first | exact RetD.quiet0 (HM.out _) | exact RetD.quiet (HM.out _))) | (go_at_call 144; with_reducible (first | exact RetD.quiet0 (HA.out _) | exact RetD.quiet (HA.out _)))))
            go_wp2_with fail
            go_roundw
            case rel => exact ⟨k + 1, by omega, by go_num, fun i hi h => by
              rcases Nat.lt_or_ge i k with h2 | h2
              · exact HVV.out i hi h2
              · obtain rfl : i = k := by omega
                exact EX2.out, by first | exact ⟨_, rfl⟩ | exact ⟨_, drewN_two _ _ _⟩⟩
            case measure => simp only [intOf]; omega
    · obtain rfl : k = T := by omega
      have hkT : k < fs.length := by have := HT.out; omega
      obtain ⟨ad', e, hfk⟩ := HFS.out.at_ (Below.refl _ _) hkT
      cases e
      have HM := Lib.hid (fun m => bmay_any B P (ad.add (k * 4)) p Ap H cp ch fs[k] 0 (w.drewN m) (by omega) HV.out (HB.out.below (below_drew (Below.refl _ _) _)) (hfk.below (below_drew (Below.refl _ _) _)))
      have HE := Lib.hid (runs_last HT.out (by have := HT.out; omega) HVV.out)
      clear hfk
      go_wp2_with fail
      refine (HM.out _).mono ?_
      rintro e w' ⟨rfl, m, rfl⟩
      go_wp2_with fail
      go_ret
      exact retD_of (by rw [HE.out]; rfl) (by first | exact ⟨_, rfl⟩ | exact ⟨_, drewN_two _ _ _⟩)
end Go.Proofs.YtjghibdlmmjobaaGreatDoor
