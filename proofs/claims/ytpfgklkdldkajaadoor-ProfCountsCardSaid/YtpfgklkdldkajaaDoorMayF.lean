/- '(*book).may', 'frame.After' answer what the plain definitions say. Conditions: the book, the frame lie in memory as they are said; the program is verified. -/
import Derived.Test.YtpfgklkdldkajaaDoorBook
namespace Go.Proofs.YtpfgklkdldkajaaDoor
open Go.RowKit

theorem frame_parts {p : List Fn} {f : Frm} {less h : Int} {g : Fn} {n : Nat} (hn : f.fn = n) (hg : p[n]? = some g) (hh : heightAt p f.fn f.pc = h) (h0 : 0 ≤ h) :
    frameB p f less = (decide ((f.locals.length : Int) = g.locals) && decide ((f.stack.length : Int) = h - less) && f.locals.all isNum && f.stack.all isNum) := by
  unfold frameB localsAt
  rw [hh, hn, Int.toNat_natCast, hg, decide_eq_true h0]
  rfl
/-- A callee that draws nothing, behind draws. -/
theorem quiet_more {P : Program} {f : FuncId} {args : Array Value} {w : World} {k n : Nat} {v : Value} (h : Calls P f args (w.drewN (k + n)) fun e w' => e = .returned v ∧ w' = w.drewN (k + n)) : Calls P f args (w.drewN (k + n)) fun e w'' => e = .returned v ∧ ∃ m, w'' = w.drewN (k + m) :=
  h.mono fun _ _ ⟨he, hm⟩ => ⟨he, n, hm⟩
theorem beq_dec (a b : Int) : (a == b) = decide (a = b) := by by_cases h : a = b <;> simp [h]
theorem cons_num (a b : Bool) : (a && b) = true ↔ a = true ∧ b = true := by cases a <;> cases b <;> simp
set_option maxRecDepth 100000 in
set_option maxHeartbeats 4000000 in
theorem bmay_any (B P F : Addr) (p : List Fn) (Ap H : Option Addr) (cp ch : Nat) (f : Frm) (less : Int) (w : World) (h01 : 0 ≤ less ∧ less ≤ 1) (hv : verifyOf p = 0) (hb : BookAt w B P p Ap cp H ch) (hf : FrmAt w F f) :
    Calls Tryd.prog 109 #[.pointer (some B), .pointer (some F), .int .i64 less] w (RetD (.bool (frameB p f less)) w) := by
  obtain ⟨fn, pc, ls, ss⟩ := f
  obtain ⟨f0, f1, ⟨A1, c1, f2, r1⟩, A2, c2, f3, r2⟩ := hf
  obtain ⟨b0, b1, bP, rp, rh⟩ := hb
  simp only at f0 f1 f2 f3 r1 r2
  have HV := Lib.hid hv
  have hpn := rp.1
  clear hv
  by_cases n1 : fn < 0
  · have HE := Lib.hid (frameB_no (p := p) (f := ⟨fn, pc, ls, ss⟩) (less := less) (heightAt_no (by simp only; omega)))
    have d1 : decide (fn < 0) = true := by simpa using n1
    go_enter Tryd.func109, Tryd.ntmps109
    go_wp2_with fail
    go_quiet (fail)
    go_wp2_with fail
    go_ret
    exact retD_of (by rw [HE.out]; rfl) ⟨_, rfl⟩
  obtain ⟨n, rfl⟩ := Int.eq_ofNat_of_zero_le (Int.not_lt.1 n1)
  have d1 : decide ((n : Int) < 0) = false := by simp
  by_cases n2 : p.length ≤ n
  · have HE := Lib.hid (frameB_no (p := p) (f := ⟨n, pc, ls, ss⟩) (less := less) (heightAt_no (by simp only; omega)))
    have d2 : decide (p.length ≤ n) = true := by simpa using n2
    go_enter Tryd.func109, Tryd.ntmps109
    go_wp2_with fail
    go_quiet (fail)
    go_wp2_with fail
    go_ret
    exact retD_of (by rw [HE.out]; rfl) ⟨_, rfl⟩
  have hn : n < p.length := by omega
  have d2 : decide (p.length ≤ n) = false := by simpa using hn
  by_cases n3 : pc < 0
  · have HE := Lib.hid (frameB_no (p := p) (f := ⟨n, pc, ls, ss⟩) (less := less) (heightAt_neg n3))
    have d3 : decide (pc < 0) = true := by simpa using n3
    go_enter Tryd.func109, Tryd.ntmps109
    go_wp2_with fail
    go_quiet (fail)
    go_wp2_with fail
    go_ret
    exact retD_of (by rw [HE.out]; rfl) ⟨_, rfl⟩
  obtain ⟨m, rfl⟩ := Int.eq_ofNat_of_zero_le (Int.not_lt.1 n3)
  have d3 : decide ((m : Int) < 0) = false := by simp
  obtain ⟨ad, rfl, Ac, cc, hF⟩ := fnAt_of rp (Below.refl _ _) hn
  have k0 := hF.c0
  have k1 := hF.c1
  have k2 := hF.c2
  have hcl := (codeMay_len (fnMay_of (packs_fn (verifyOf_packs HV.out) hn)).2.2.2.2).2
  by_cases n4 : p[n].code.length ≤ m
  · have HE := Lib.hid (frameB_no (p := p) (f := ⟨n, m, ls, ss⟩) (less := less) (heightAt_far HV.out hn (by simp only; omega)))
    have d4 : decide (p[n].code.length ≤ m) = true := by simpa using n4
    go_enter Tryd.func109, Tryd.ntmps109
    go_wp2_with fail
    go_quiet (fail)
    go_wp2_with fail
    go_ret
    exact retD_of (by rw [HE.out]; rfl) ⟨_, rfl⟩
  have hm : m < p[n].code.length := by omega
  have d4 : decide (p[n].code.length ≤ m) = false := by simpa using hm
  obtain ⟨hmb, hh, hrange⟩ := heightAt_in HV.out hn hm
  have hbl : n < (bookOf p).length := by simpa [bookOf] using hn
  obtain ⟨ah, rfl, Hn, cn, g0, gr⟩ := rh.at_ hbl
  rw [bookOf_at hn hbl] at g0 gr
  obtain ⟨an, rfl, g1⟩ := gr.at_ hmb
  have hbn : (heightsF p p[n]).1.length ≤ 9223372036854775807 := gr.1
  obtain ⟨h, eh⟩ : ∃ h, (heightsF p p[n]).1[m] = h := ⟨_, rfl⟩
  rw [eh] at g1 hh hrange
  obtain ⟨L, eL⟩ : ∃ L, (heightsF p p[n]).1.length = L := ⟨_, rfl⟩
  rw [eL] at g0 hmb hbn
  have HF := Lib.hid hF
  have HH := Lib.hid hh
  clear eh eL gr hF rh rp hh n1 n2 n3 n4
  by_cases e1 : h = -1
  · have HE := Lib.hid (frameB_no (p := p) (f := ⟨n, m, ls, ss⟩) (less := less) (HH.out.trans e1))
    have t1 : (h != -1) = false := by simpa using e1
    clear e1 hrange
    go_enter Tryd.func109, Tryd.ntmps109
    go_wp2_with fail
    go_quiet (fail)
    go_wp2_with fail
    go_quiet (fail)
    go_wp2_with fail
    go_quiet (fail)
    go_wp2_with fail
    go_ret
    exact retD_of (by rw [HE.out]; rfl) (by simp only [drewN_two]; exact ⟨_, rfl⟩)
  · obtain ⟨h0, h12⟩ := hrange.resolve_left e1
    have HE := Lib.hid (frame_parts (p := p) (f := ⟨n, m, ls, ss⟩) (less := less) (g := p[n]) rfl (List.getElem?_eq_getElem hn) HH.out h0)
    simp only at HE
    have t1 : (h != -1) = true := by simpa using e1
    have q1 : IntKind.i64.wrap (h - less) = h - less := IntWalk.i64_in _ (by omega)
    have HLS := Lib.hid (wrapAll_any A1 c1 ls)
    have HSS := Lib.hid (wrapAll_any A2 c2 ss)
    have R1 := Lib.hid r1
    have R2 := Lib.hid r2
    obtain ⟨w1, rfl⟩ : ∃ x, x = w := ⟨_, rfl⟩
    clear e1 hrange r1 r2
    by_cases e2 : (ls.length : Int) = p[n].locals
    · have t2 : ((ls.length : Int) == p[n].locals) = true := by simpa using e2
      by_cases e3 : (ss.length : Int) = h - less
      · have t3 : ((ss.length : Int) == h - less) = true := by simpa using e3
        have E2 := Lib.hid e2
        have E3 := Lib.hid e3
        clear e2 e3
        obtain ⟨x1, ex1⟩ : ∃ x1, ls.all isNum = x1 := ⟨_, rfl⟩
        obtain ⟨x2, ex2⟩ : ∃ x2, ss.all isNum = x2 := ⟨_, rfl⟩
        rw [ex1] at HLS HE
        rw [ex2] at HSS HE
        clear ex1 ex2
        cases x1
        all_goals
          go_enter Tryd.func109, Tryd.ntmps109
          go_wp2_with fail
          go_quiet (fail)
          go_wp2_with fail
          go_quiet (fail)
          go_wp2_with fail
          go_quiet ((go_at_call 47; with_reducible (first | exact quiet_more (HLS.out _ (R1.out.below (below_drew (Below.refl _ _) _))) | exact quiet_more (HSS.out _ (R2.out.below (below_drew (Below.refl _ _) _))))))
          go_wp2_with fail
          go_ret
          exact retD_of (by rw [HE.out, decide_eq_true E2.out, decide_eq_true E3.out]; rfl) (by simp only [drewN_two]; exact ⟨_, rfl⟩)
      · have t3 : ((ss.length : Int) == h - less) = false := by simpa using e3
        have E3 := Lib.hid e3
        clear e2 e3
        go_enter Tryd.func109, Tryd.ntmps109
        go_wp2_with fail
        go_quiet (fail)
        go_wp2_with fail
        go_quiet (fail)
        go_wp2_with fail
        go_quiet (fail)
        go_wp2_with fail
        go_ret
        exact retD_of (by rw [HE.out, decide_eq_false E3.out]; simp) (by simp only [drewN_two]; exact ⟨_, rfl⟩)
    · have t2 : ((ls.length : Int) == p[n].locals) = false := by simpa using e2
      have E2 := Lib.hid e2
      clear e2
      go_enter Tryd.func109, Tryd.ntmps109
      go_wp2_with fail
      go_quiet (fail)
      go_wp2_with fail
      go_quiet (fail)
      go_wp2_with fail
      go_quiet (fail)
      go_wp2_with fail
      go_ret
      exact retD_of (by rw [HE.out, decide_eq_false E2.out]; rfl) (by simp only [drewN_two]; exact ⟨_, rfl⟩)
end Go.Proofs.YtpfgklkdldkajaaDoor
