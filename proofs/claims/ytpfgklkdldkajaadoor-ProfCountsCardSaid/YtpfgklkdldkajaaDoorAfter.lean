/- 'frame.After' answers what the plain definition says. Conditions: the program, its heights lie in memory as they are said; the program is verified. -/
import Derived.Test.YtpfgklkdldkajaaDoorMayF
namespace Go.Proofs.YtpfgklkdldkajaaDoor
open Go.RowKit

theorem codeAt_in {p : List Fn} {n m : Nat} (hn : n < p.length) (hm : m < p[n].code.length) : codeAt p n m = some p[n].code[m] := by
  unfold codeAt
  rw [Int.toNat_natCast, List.getElem?_eq_getElem hn, Int.toNat_natCast]
  exact List.getElem?_eq_getElem hm
theorem behind_no {p : List Fn} {fn pc called : Int} (h : heightAt p fn (pc - 1) = -1) : behindB p fn pc called = false := by unfold behindB; rw [h]; rfl
theorem behind_yes {p : List Fn} {n m : Nat} {pc called h : Int} (hp : pc - 1 = m) (hn : n < p.length) (hm : m < p[n].code.length) (hh : heightAt p n m = h) (h0 : 0 ≤ h) : behindB p n pc called = eqIns p[n].code[m] ⟨14, called⟩ := by
  unfold behindB
  rw [hp, hh, decide_eq_true h0, codeAt_in hn hm, Bool.true_and]
  rw [Bool.eq_iff_iff, eqIns_iff]
  simp
set_option maxRecDepth 100000 in
set_option maxHeartbeats 4000000 in
theorem after_any (P : Addr) (p : List Fn) (Ap H : Option Addr) (cp ch : Nat) (n : Nat) (pc called : Int) (w : World) (hv : verifyOf p = 0) (hn : n < p.length) (hp : w.cell? P = some (.slice Ap p.length cp)) (rp : ReadsF w Ap p) (rh : ReadsII w H (bookOf p)) :
    Calls Tryd.prog 110 #[.pointer (some P), .slice H p.length ch, .int .i64 n, .int .i64 pc, .int .i64 called] w (RetD (.bool (behindB p n pc called)) w) := by
  have HV := Lib.hid hv
  have hpn := rp.1
  clear hv
  by_cases n1 : 0 < pc
  case neg =>
    have HE := Lib.hid (behind_no (called := called) (heightAt_neg (p := p) (fn := n) (pc := pc - 1) (by omega)))
    have d1 : decide (0 < pc) = false := by simpa using n1
    go_enter Tryd.func110, Tryd.ntmps110
    go_wp2_with fail
    go_ret
    exact retD_of (by rw [HE.out]; rfl) ⟨0, rfl⟩
  obtain ⟨m, hm0⟩ := Int.eq_ofNat_of_zero_le (show 0 ≤ pc - 1 by omega)
  obtain rfl : pc = m + 1 := by omega
  have d1 : decide ((0 : Int) < m + 1) = true := by simp
  obtain ⟨ad, rfl, Ac, cc, hF⟩ := fnAt_of rp (Below.refl _ _) hn
  have k0 := hF.c0
  have k1 := hF.c1
  have k2 := hF.c2
  have hcl := (codeMay_len (fnMay_of (packs_fn (verifyOf_packs HV.out) hn)).2.2.2.2).2
  by_cases n4 : m + 1 ≤ p[n].code.length
  case neg =>
    have HE := Lib.hid (behind_no (called := called) (heightAt_far (pc := (m : Int) + 1 - 1) HV.out hn (by omega)))
    have d4 : decide ((m : Int) + 1 ≤ p[n].code.length) = false := by simp; omega
    clear hm0
    go_enter Tryd.func110, Tryd.ntmps110
    go_wp2_with fail
    go_ret
    exact retD_of (by rw [HE.out]; rfl) ⟨0, rfl⟩
  have hm : m < p[n].code.length := by omega
  have d4 : decide ((m : Int) + 1 ≤ p[n].code.length) = true := by simp; omega
  obtain ⟨hmb, hh, hrange⟩ := heightAt_in HV.out hn hm
  have hbl : n < (bookOf p).length := by simpa [bookOf] using hn
  obtain ⟨ah, rfl, Hn, cn, g0, gr⟩ := rh.at_ hbl
  rw [bookOf_at hn hbl] at g0 gr
  obtain ⟨an, rfl, g1⟩ := gr.at_ hmb
  have hbn : (heightsF p p[n]).1.length ≤ 9223372036854775807 := gr.1
  obtain ⟨adc, eC, i0, i1⟩ := hF.r.at_ (Below.refl _ _) hm
  subst eC
  obtain ⟨h, eh⟩ : ∃ h, (heightsF p p[n]).1[m] = h := ⟨_, rfl⟩
  rw [eh] at g1 hh hrange
  obtain ⟨L, eL⟩ : ∃ L, (heightsF p p[n]).1.length = L := ⟨_, rfl⟩
  rw [eL] at g0 hmb hbn
  obtain ⟨C, eC⟩ : ∃ C, p[n].code.length = C := ⟨_, rfl⟩
  have hmC : m < C := by omega
  rw [eC] at k2 hcl d4
  have q1 : IntKind.i64.wrap ((m : Int) + 1 - 1) = m := by rw [show ((m : Int) + 1 - 1) = m by omega]; exact IntWalk.i64_in _ (by omega)
  have HM := Lib.hid hm0
  have HH := Lib.hid hh
  clear eh eL gr hF rh rp hh n1 n4 hm0
  by_cases e1 : h = -1
  · have HE := Lib.hid (behind_no (called := called) (pc := (m : Int) + 1) (p := p) (fn := n) (by rw [HM.out]; exact HH.out.trans e1))
    have t1 : (h != -1) = false := by simpa using e1
    clear e1 hrange
    clear eC
    go_enter Tryd.func110, Tryd.ntmps110
    go_wp2_with fail
    go_ret
    exact retD_of (by rw [HE.out]; rfl) ⟨0, rfl⟩
  · obtain ⟨h0, h12⟩ := hrange.resolve_left e1
    have HE := Lib.hid (behind_yes (called := called) HM.out hn hm HH.out h0)
    have t1 : (h != -1) = true := by simpa using e1
    have hq := fun (W : World) => eql_of (fun d => eqrIns d W p[n].code[m] ⟨14, called⟩)
    clear e1 hrange eC
    go_enter Tryd.func110, Tryd.ntmps110
    go_wp2_with fail
    go_ret
    exact retD_of (by rw [HE.out]; rfl) ⟨0, rfl⟩
end Go.Proofs.YtpfgklkdldkajaaDoor
