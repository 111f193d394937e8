/- The document's 'frame', 'FrameMay', 'Behind', 'StateMay' answer what the plain definitions say. Conditions: the program, the frames lie in memory as they are said. The document's 'Fresh', 'Start'. Conditions: the program, the args lie in memory; the args are no more than the locals. The document's 'Start': the state that a program begins with. Conditions: the program, the args lie in memory. -/
import Derived.Test.YtpfgklkdldkajaaGreatDoorGZ26
namespace Go.Proofs.YtpfgklkdldkajaaGreatDoor
open Go.RowKit

theorem frameB_numbers {p : List Fn} {f : Frm} {less h : Int} {g : Fn} {n : Nat} (hn : f.fn = n) (hg : p[n]? = some g) (hh : heightAt p f.fn f.pc = h) (h0 : 0 ≤ h) : frameB p f less = (numbersB f.locals g.locals && numbersB f.stack (h - less)) := by
  rw [frame_parts hn hg hh h0]
  unfold numbersB
  cases decide ((f.locals.length : Int) = g.locals) <;> cases decide ((f.stack.length : Int) = h - less) <;> cases f.locals.all isNum <;> cases f.stack.all isNum <;> rfl
theorem frameB_neg {p : List Fn} {f : Frm} {less : Int} (h : heightAt p f.fn f.pc < 0) : frameB p f less = false := by unfold frameB; rw [decide_eq_false (by omega)]; rfl
theorem ret_drew {b : Bool} {v : Value} {w w1 w2 : World} (e : v = .bool b) (h : Below w.heap.size w w1) (k : ∃ n, w2 = w1.drewN n) : Ret (.bool b) w (.returned v) w2 := by
  obtain ⟨n, rfl⟩ := k
  exact ⟨by rw [e], below_drew h n⟩
theorem heightAt_le {p : List Fn} (hv : verifyOf p = 0) (fn pc : Int) : heightAt p fn pc ≤ 12 := by
  by_cases h : 0 ≤ fn ∧ fn < p.length
  · obtain ⟨n, rfl⟩ := Int.eq_ofNat_of_zero_le h.1
    have hn : n < p.length := by omega
    by_cases h1 : pc < 0
    · rw [heightAt_neg h1]; omega
    · obtain ⟨m, rfl⟩ := Int.eq_ofNat_of_zero_le (Int.not_lt.1 h1)
      by_cases h2 : m < p[n].code.length
      · obtain ⟨_, e, h3⟩ := heightAt_in hv hn h2
        rw [e]; omega
      · rw [heightAt_far hv hn (by omega)]; omega
  · rw [heightAt_no h]; omega
set_option maxRecDepth 100000 in
set_option maxHeartbeats 4000000 in
theorem rframe_any (p : List Fn) (Ap A1 A2 : Option Addr) (cp c1 c2 : Nat) (f : Frm) (less : Int) (w : World) (hv : verifyOf p = 0) (hr : ReadsF w Ap p) (h1 : ReadsI w A1 f.locals) (h2 : ReadsI w A2 f.stack) (h01 : 0 ≤ less ∧ less ≤ 1) :
    Calls Tryz.prog 94 #[.agg #[.slice Ap p.length cp], frV f (.slice A1 f.locals.length c1) (.slice A2 f.stack.length c2), .int .i64 less] w (Ret (.bool (frameB p f less)) w) := by
  obtain ⟨w1, hw1⟩ : ∃ w1, w.alloc (.cells #[.slice Ap p.length cp] 24) = w1 := ⟨_, rfl⟩
  obtain ⟨w2, hw2⟩ : ∃ w2, w1.alloc (.cells #[.int .i64 f.fn, .int .i64 f.pc, .slice A1 f.locals.length c1, .slice A2 f.stack.length c2] 68) = w2 := ⟨_, rfl⟩
  have b1 : Below w.heap.size w w1 := hw1 ▸ below_alloc (Below.refl _ _) _
  have b2 : Below w1.heap.size w1 w2 := hw2 ▸ below_alloc (Below.refl _ _) _
  have R1 := Lib.hid ((hw1 ▸ RowAt.new _ _ w : RowAt 24 w.heap.size [.slice Ap p.length cp] w1).below b2)
  have R2 := Lib.hid (hw2 ▸ RowAt.new _ _ w1 : RowAt 68 w1.heap.size [.int .i64 f.fn, .int .i64 f.pc, .slice A1 f.locals.length c1, .slice A2 f.stack.length c2] w2)
  have B2 := Lib.hid (below_trans b1 b2)
  have RP := Lib.hid (hr.below B2.out)
  have RL := Lib.hid (h1.below B2.out)
  have RS := Lib.hid (h2.below B2.out)
  have H := Lib.hid (height_any p Ap cp f.fn f.pc w2 RP.out)
  have HLE := Lib.hid (heightAt_le hv f.fn f.pc)
  obtain ⟨h, hh⟩ : ∃ h, heightAt p f.fn f.pc = h := ⟨_, rfl⟩
  have HH := Lib.hid hh
  rw [hh] at H HLE
  have k0 := R1.out.cell (k := 0) (by simp)
  have l0 := R2.out.cell (k := 0) (by simp)
  have l1 := R2.out.cell (k := 1) (by simp)
  simp only [List.getElem_cons_zero, List.getElem_cons_succ] at k0 l0 l1
  have hnl := h1.1
  have hns := h2.1
  have hnp := hr.1
  unfold frV
  clear hh b1 b2 hr h1 h2 hv
  go_enter Tryz.func94, Tryz.ntmps94
  go_wp2_with fail
  (with_reducible refine H.out.mono ?_)
  rintro e w3 ⟨rfl, hB⟩
  have B3 := Lib.hid (below_trans B2.out hB)
  have RP3 := Lib.hid (RP.out.below hB)
  have RL3 := Lib.hid (RL.out.below hB)
  have RS3 := Lib.hid (RS.out.below hB)
  have q := R2.out.below hB
  have k0 := (R1.out.below hB).cell (k := 0) (by simp)
  have l0 := q.cell (k := 0) (by simp)
  have l2 := q.cell (k := 2) (by simp)
  have l3 := q.cell (k := 3) (by simp)
  simp only [List.getElem_cons_zero, List.getElem_cons_succ] at k0 l0 l2 l3
  clear H hB q hw1 hw2
  by_cases h0 : h < 0
  · have HE := Lib.hid (frameB_neg (less := less) (show heightAt p f.fn f.pc < 0 by rw [HH.out]; exact h0))
    have d0 : decide (0 ≤ h) = false := by simpa using h0
    go_wp2_with fail
    go_quiet (fail)
    go_wp2_with fail
    go_ret
    exact ret_drew (by rw [HE.out]; rfl) B3.out ⟨_, rfl⟩
  · have h0' : 0 ≤ h := by omega
    have h12 := HLE.out
    have d0 : decide (0 ≤ h) = true := by simpa using h0'
    obtain ⟨n, hn, hnl'⟩ := heightAt_fn (show 0 ≤ heightAt p f.fn f.pc by rw [HH.out]; exact h0')
    rw [hn] at l0
    obtain ⟨ad, rfl, Ac, cc, hF⟩ := fnAt_of RP3.out (Below.refl _ _) hnl'
    have m1 := hF.c1
    have HE := Lib.hid (frameB_numbers (less := less) hn (List.getElem?_eq_getElem hnl') HH.out h0')
    have q1 : IntKind.i64.wrap (h - less) = h - less := IntWalk.i64_in _ (by omega)
    have HA := Lib.hid (numbers_any A1 c1 f.locals p[n].locals)
    have HS := Lib.hid (numbers_any A2 c2 f.stack (h - less))
    obtain ⟨x1, ex1⟩ : ∃ x1, numbersB f.locals p[n].locals = x1 := ⟨_, rfl⟩
    obtain ⟨x2, ex2⟩ : ∃ x2, numbersB f.stack (h - less) = x2 := ⟨_, rfl⟩
    rw [ex1] at HA HE
    rw [ex2] at HS HE
    clear ex1 ex2 hF hn h0
    cases x1
    all_goals
      go_wp2_with fail
      go_quiet ((go_at_call 50; with_reducible (first | exact Calls.quiet_of_same (HA.out _ (RL3.out.below (below_drew (Below.refl _ _) _))) | exact Calls.quiet_of_same (HS.out _ (RS3.out.below (below_drew (Below.refl _ _) _))))))
      go_wp2_with fail
      go_ret
      exact ret_drew (by rw [HE.out]; rfl) B3.out ⟨_, rfl⟩
theorem codeAt_len {p : List Fn} {n m : Nat} (hn : n < p.length) (h : 0 ≤ heightAt p n m) (hv : verifyOf p = 0) : m < p[n].code.length := by
  rcases Nat.lt_or_ge m p[n].code.length with h1 | h1
  · exact h1
  · rw [heightAt_far hv hn (by omega)] at h; exact absurd h (by decide)
set_option maxRecDepth 100000 in
set_option maxHeartbeats 4000000 in
theorem rbehind_any (p : List Fn) (Ap : Option Addr) (cp : Nat) (fn pc called : Int) (w : World) (hv : verifyOf p = 0) (hr : ReadsF w Ap p) (hpc : -1 ≤ pc ∧ pc ≤ 1000) :
    Calls Tryz.prog 95 #[.agg #[.slice Ap p.length cp], .int .i64 fn, .int .i64 pc, .int .i64 called] w (Ret (.bool (behindB p fn pc called)) w) := by
  obtain ⟨w1, hw1⟩ : ∃ w1, w.alloc (.cells #[.slice Ap p.length cp] 24) = w1 := ⟨_, rfl⟩
  have b1 : Below w.heap.size w w1 := hw1 ▸ below_alloc (Below.refl _ _) _
  have R1 := Lib.hid (hw1 ▸ RowAt.new _ _ w : RowAt 24 w.heap.size [.slice Ap p.length cp] w1)
  have B1 := Lib.hid b1
  have RP := Lib.hid (hr.below b1)
  have H := Lib.hid (height_any p Ap cp fn (pc - 1) w1 RP.out)
  have HV := Lib.hid hv
  obtain ⟨h, hh⟩ : ∃ h, heightAt p fn (pc - 1) = h := ⟨_, rfl⟩
  have HH := Lib.hid hh
  rw [hh] at H
  have k0 := R1.out.cell (k := 0) (by simp)
  simp only [List.getElem_cons_zero] at k0
  have hnp := hr.1
  clear hh b1 hr hv
  go_enter Tryz.func95, Tryz.ntmps95
  go_wp2_with fail
  (with_reducible refine H.out.mono ?_)
  rintro e w3 ⟨rfl, hB⟩
  have B3 := Lib.hid (below_trans B1.out hB)
  have RP3 := Lib.hid (RP.out.below hB)
  have k0 := (R1.out.below hB).cell (k := 0) (by simp)
  simp only [List.getElem_cons_zero] at k0
  clear H hB hw1
  by_cases h0 : h < 0
  · have HE := Lib.hid (show behindB p fn pc called = false by unfold behindB; rw [HH.out, decide_eq_false (by omega)]; rfl)
    have d0 : decide (h < 0) = true := by simpa using h0
    go_wp2_with fail
    go_ret
    exact ret_tail (by rw [HE.out]; rfl) B3.out (Below.refl _ _)
  · have h0' : 0 ≤ h := by omega
    have d0 : decide (h < 0) = false := by simpa using h0
    obtain ⟨n, rfl, hnl'⟩ := heightAt_fn (show 0 ≤ heightAt p fn (pc - 1) by rw [HH.out]; exact h0')
    have hp0 : 0 ≤ pc - 1 := by
      rcases Int.lt_or_le (pc - 1) 0 with h9 | h9
      · have := heightAt_neg (p := p) (fn := n) h9; rw [HH.out] at this; omega
      · exact h9
    obtain ⟨m, hm⟩ := Int.eq_ofNat_of_zero_le hp0
    have hml : m < p[n].code.length := codeAt_len hnl' (by rw [← hm, HH.out]; exact h0') HV.out
    obtain ⟨ad, rfl, Ac, cc, hF⟩ := fnAt_of RP3.out (Below.refl _ _) hnl'
    have m2 := hF.c2
    have hcl := hF.r.1
    obtain ⟨adc, eC, i0, i1⟩ := hF.r.at_ (Below.refl _ _) hml
    subst eC
    obtain rfl : pc = m + 1 := by omega
    have HE := Lib.hid (behind_yes (called := called) hm hnl' hml (by rw [← hm]; exact HH.out) h0')
    have hq := fun (W : World) => eql_of (fun d => eqrIns d W p[n].code[m] ⟨14, called⟩)
    have q1 : IntKind.i64.wrap ((m : Int) + 1 - 1) = m := by rw [show ((m : Int) + 1 - 1) = m by omega]; exact IntWalk.i64_in _ (by omega)
    clear hm hp0 hF h0
    go_wp2_with fail
    go_ret
    exact ret_tail (by rw [HE.out]; rfl) B3.out (Below.refl _ _)
end Go.Proofs.YtpfgklkdldkajaaGreatDoor

namespace Go.Proofs.YtpfgklkdldkajaaGreatDoor
open Go.RowKit

theorem beginL_step {args : List Int} {L k : Nat} (hk : k < args.length) (hL : args.length ≤ L) : beginL (args.take (k + 1)) L = (beginL (args.take k) L).set k args[k] := by
  unfold beginL
  rw [List.take_succ_eq_append_getElem hk]
  have e1 : (args.take k).length = k := by simp; omega
  rw [List.length_append, e1, List.set_append_right _ _ (by omega), e1, Nat.sub_self, show L - k = (L - (k + 1)) + 1 by omega, List.replicate_succ, List.set_cons_zero, List.append_assoc]
  rfl
theorem beginL_nil (args : List Int) (L : Nat) : beginL (args.take 0) L = List.replicate L 0 := by simp [beginL]
set_option maxRecDepth 100000 in
set_option maxHeartbeats 2000000 in
theorem fresh_any (p : List Fn) (Ap A : Option Addr) (cp c n L : Nat) (args : List Int) (w : World) (hr : ReadsF w Ap p) (hn : n < p.length) (hL : p[n].locals = L) (h8 : L ≤ 100) (ha : ReadsI w A args) (hle : args.length ≤ L) :
    Calls Tryz.prog 98 #[.agg #[.slice Ap p.length cp], .int .i64 n, .slice A args.length c] w (BeginE n args L w) := by
  obtain ⟨w1, hw1⟩ : ∃ w1, w.alloc (.cells #[.slice Ap p.length cp] 24) = w1 := ⟨_, rfl⟩
  obtain ⟨w2, hw2⟩ : ∃ w2, w1.alloc (.cells #[.int .i64 0, .int .i64 0, .slice none 0 0, .slice none 0 0] 68) = w2 := ⟨_, rfl⟩
  have b1 : Below w.heap.size w w1 := hw1 ▸ below_alloc (Below.refl _ _) _
  have b2 : Below w1.heap.size w1 w2 := hw2 ▸ below_alloc (Below.refl _ _) _
  have z1 : w1.heap.size = w.heap.size + 1 := by rw [← hw1]; simp
  have z2 : w2.heap.size = w.heap.size + 2 := by rw [← hw2]; simp [z1]
  have b02 := below_trans b1 b2
  have p2 : w2.cell? ⟨w.heap.size, 0, none⟩ = some (.slice Ap p.length cp) := cell_below b2 (hw1 ▸ (blk_cell (blk_new w _) 0).trans rfl)
  have r2 : RowAt 68 w1.heap.size [.int .i64 0, .int .i64 0, .slice none 0 0, .slice none 0 0] w2 := hw2 ▸ RowAt.new _ _ w1
  obtain ⟨ad, rfl, Ac, cc, hF⟩ := fnAt_of hr b02 hn
  have k1 := hF.c1
  rw [hL] at k1
  have hmk := make_ints L h8 w2
  obtain ⟨w3, hw3⟩ : ∃ w3, w2.alloc (.cells (intsV (List.replicate L 0)).toArray 3) = w3 := ⟨_, rfl⟩
  have b3 : Below w2.heap.size w2 w3 := hw3 ▸ below_alloc (Below.refl _ _) _
  have r3 : RowAt 3 w2.heap.size (intsV (List.replicate L 0)) w3 := hw3 ▸ RowAt.new _ _ w2
  rw [hw3] at hmk
  have B3 := Lib.hid (below_trans b02 b3)
  have R3 := Lib.hid (show RowAt 3 w2.heap.size (intsV (beginL (args.take 0) L)) w3 by rw [beginL_nil]; exact r3)
  have R2 := Lib.hid (r2.below b3)
  have RA := Lib.hid ha
  have Z1 := Lib.hid z1
  have Z2 := Lib.hid z2
  have hpn := hr.1
  have hna := ha.1
  clear b1 b2 b3 b02 r2 r3 z1 z2 hr hF ha hL hw3
  go_enter Tryz.func98, Tryz.ntmps98
  go_wp2_with fail
  clear hmk hw1 hw2 k1 p2
  go_loopw [8] (fun i wr => ∃ k : Nat, k ≤ args.length ∧ i = .int .i64 k ∧ RowAt 3 w2.heap.size (intsV (beginL (args.take k) L)) wr ∧ RowAt 68 w1.heap.size [.int .i64 0, .int .i64 0, .slice none 0 0, .slice none 0 0] wr ∧ Keeps w2.heap.size w3 wr) (fun i _ => args.length - (intOf i).toNat)
  case atStart => exact ⟨0, Nat.zero_le _, rfl, R3.out, R2.out, Keeps.refl _ _⟩
  case round =>
    obtain ⟨k, hk, rfl, hrow, hfr, hkp⟩ := hrel
    by_cases hlt : k < args.length
    · have hkL : k < L := by omega
      have d1 : decide (k < args.length) = true := by simpa using hlt
      have d2 : decide (k < L) = true := by simpa using hkL
      have hlen : (beginL (args.take k) L).length = L := beginL_len (by simp; omega)
      obtain ⟨a2, eA, ca⟩ := RA.out.at_ hlt
      subst eA
      have hc0 := cell_below (below_keep B3.out hkp (by have := Z2.out; omega)) ca
      have hkb : k < (beginL (args.take k) L).length := by omega
      have c1 := ints_cell hrow (k := k) hkb
      obtain ⟨x, hx⟩ : ∃ x, (beginL (args.take k) L)[k] = x := ⟨_, rfl⟩
      rw [hx] at c1
      have f1 := hrow.free k
      have s1 := ints_put hrow k args[k]
      rw [← beginL_step hlt hle] at s1
      have S1 := Lib.hid s1
      have K1 := Lib.hid (hkp.put k (.int .i64 args[k]))
      have F1 := Lib.hid (hfr.keeps (show Keeps w2.heap.size wr (wr.setCell ⟨w2.heap.size, k, none⟩ (.int .i64 args[k])) from Keeps.put (Keeps.refl _ _) _ _) (by have := Z1.out; have := Z2.out; omega))
      clear s1 hrow hfr hkp ca hx hkb hlen
      go_wp2_with fail
      go_roundw
      case rel => exact ⟨k + 1, by omega, by go_num, S1.out, F1.out, K1.out⟩
      case measure => simp only [intOf]; omega
    · have hke : args.take k = args := List.take_of_length_le (by omega)
      rw [hke] at hrow
      have f0 := hfr.free 0
      have f1 := hfr.free 1
      have f2 := hfr.free 2
      have f3 := hfr.free 3
      have g0 := hfr.cell (k := 0) (by simp)
      have g1 := hfr.cell (k := 1) (by simp)
      have g2 := hfr.cell (k := 2) (by simp)
      have g3 := hfr.cell (k := 3) (by simp)
      simp only [List.getElem_cons_succ, List.getElem_cons_zero] at g0 g1 g2 g3
      have s1 := hfr.put 0 (.int .i64 n)
      have s2 := s1.put 1 (.int .i64 0)
      have s3 := s2.put 2 (.slice (some ⟨w2.heap.size, 0, none⟩) L L)
      have s4 := s3.put 3 (.slice none 0 0)
      have e0 := s1.cell (k := 0) (by simp)
      have e1 := s2.cell (k := 1) (by simp)
      have e2 := s3.cell (k := 2) (by simp)
      have e3 := s4.cell (k := 3) (by simp)
      simp only [List.set_cons_zero, List.set_cons_succ, List.getElem_cons_succ, List.getElem_cons_zero] at e0 e1 e2 e3
      have hz1 := Z1.out
      have hz2 := Z2.out
      have kb : ∀ (W : World) (k : Nat) (u : Value), Below w.heap.size w W → Below w.heap.size w (W.setCell ⟨w1.heap.size, k, none⟩ u) := fun W k u hb => hb.setCell (p := ⟨w1.heap.size, k, none⟩) (by simp; omega) u
      have br := below_keep B3.out hkp (by omega)
      have b4 := kb _ 3 (.slice none 0 0) (kb _ 2 (.slice (some ⟨w2.heap.size, 0, none⟩) L L) (kb _ 1 (.int .i64 0) (kb _ 0 (.int .i64 n) br)))
      have kr : ∀ (W : World) (k : Nat) (u : Value), RowAt 3 w2.heap.size (intsV (beginL args L)) W → RowAt 3 w2.heap.size (intsV (beginL args L)) (W.setCell ⟨w1.heap.size, k, none⟩ u) := fun W k u h => h.keeps (g := w1.heap.size) (Keeps.put (Keeps.refl _ _) k u) (by omega)
      have r4 := kr _ 3 (.slice none 0 0) (kr _ 2 (.slice (some ⟨w2.heap.size, 0, none⟩) L L) (kr _ 1 (.int .i64 0) (kr _ 0 (.int .i64 n) hrow)))
      have B4 := Lib.hid b4
      have R4 := Lib.hid r4
      have E0 := Lib.hid e0
      have E1 := Lib.hid e1
      have E2 := Lib.hid e2
      have E3 := Lib.hid e3
      have d1 : decide (k < args.length) = false := by simp; omega
      clear s1 s2 s3 s4 e0 e1 e2 e3 kb b4 kr r4 br hz1 hz2 hrow hfr hkp
      go_wp2_with fail
      exact bodyPost_ret (v := .agg #[.int .i64 n, .int .i64 0, .slice (some ⟨w2.heap.size, 0, none⟩) L L, .slice none 0 0]) (by simp [results, Tryz.results98, go_sem, E0.out, E1.out, E2.out, E3.out]) rfl ⟨w2.heap.size, rfl, R4.out, by have := Z2.out; omega, B4.out⟩
end Go.Proofs.YtpfgklkdldkajaaGreatDoor

namespace Go.Proofs.YtpfgklkdldkajaaGreatDoor
open Go.RowKit

set_option maxRecDepth 100000 in
set_option maxHeartbeats 4000000 in
theorem rstart_any (p : List Fn) (Ap A : Option Addr) (cp c : Nat) (args : List Int) (fuel : Int) (w : World) (hr : ReadsF w Ap p) (ha : ReadsI w A args) :
    Calls Tryz.prog 70 #[.agg #[.slice Ap p.length cp], .slice A args.length c, .int .i64 fuel] w (StateE (startS p args fuel) (startC p args fuel) w) := by
  obtain ⟨w1, hw1⟩ : ∃ w1, w.alloc (.cells #[.slice Ap p.length cp] 24) = w1 := ⟨_, rfl⟩
  obtain ⟨w2, hw2⟩ : ∃ w2, w1.alloc (.cells #[.slice none 0 0, .int .i64 0, .slice none 0 0, .int .i64 0, .int .i64 0] 47) = w2 := ⟨_, rfl⟩
  have b1 : Below w.heap.size w w1 := hw1 ▸ below_alloc (Below.refl _ _) _
  have b2 : Below w1.heap.size w1 w2 := hw2 ▸ below_alloc (Below.refl _ _) _
  have z1 : w1.heap.size = w.heap.size + 1 := by rw [← hw1]; simp
  have r1 : RowAt 24 w.heap.size [.slice Ap p.length cp] w2 := (hw1 ▸ RowAt.new _ _ w : RowAt 24 w.heap.size [.slice Ap p.length cp] w1).below b2
  have r2 : RowAt 47 w1.heap.size [.slice none 0 0, .int .i64 0, .slice none 0 0, .int .i64 0, .int .i64 0] w2 := hw2 ▸ RowAt.new _ _ w1
  have B2 := Lib.hid (below_trans b1 b2)
  have R1 := Lib.hid r1
  have R2 := Lib.hid r2
  have Z1 := Lib.hid z1
  have HRF := Lib.hid (hr.below B2.out)
  have HAR := Lib.hid (ha.below B2.out)
  have hna := ha.1
  have HP := Lib.hid (rverify_any p Ap cp w2 HRF.out)
  obtain ⟨vf, hvf⟩ : ∃ vf, verifyOf p = vf := ⟨_, rfl⟩
  have HVF := Lib.hid hvf
  rw [hvf] at HP
  have q1 := row_cell r1
  clear hvf b1 b2 r1 r2 hr ha z1
  by_cases hv : vf = 0
  · have dv : (vf != 0) = false := by simpa using hv
    have HV := Lib.hid (HVF.out.trans hv)
    have hp1 := (packs_len (verifyOf_packs HV.out)).1
    obtain ⟨a0, a4, al, l8, _⟩ := fnMay_of (packs_fn (verifyOf_packs HV.out) (k := 0) hp1)
    obtain ⟨L, hL⟩ := Int.eq_ofNat_of_zero_le (show 0 ≤ p[0].locals by omega)
    have HL := Lib.hid hL
    have L8 : L ≤ 100 := by omega
    have hea : argsAt0 p = p[0].args := by unfold argsAt0; rw [List.getElem?_eq_getElem hp1]
    have hel : localsAt p 0 = L := by unfold localsAt; rw [show (0 : Int).toNat = 0 from rfl, List.getElem?_eq_getElem hp1]; exact hL
    have HE := Lib.hid (show startB p args fuel = (numbersB args p[0].args && decide (0 ≤ fuel) && decide (fuel ≤ 100000)) by unfold startB numbersB; rw [HV.out, hea, decide_eq_true rfl, Bool.true_and, Bool.and_comm (args.all isNum)])
    have HNL := Lib.hid (show numbersB args p[0].args = true → (args.length : Int) = p[0].args from fun h => by unfold numbersB at h; simp only [Bool.and_eq_true, decide_eq_true_eq] at h; exact h.2)
    have HEL := Lib.hid hel
    have AL := Lib.hid al
    clear hv a0 a4 al l8 hL hea hel
    go_enter Tryz.func70, Tryz.ntmps70
    go_wp2_with fail
    refine HP.out.mono ?_
    rintro e w3 ⟨rfl, hB⟩
    have B3 := Lib.hid (below_trans B2.out hB)
    have B23 := Lib.hid hB
    have HRF3 := Lib.hid (HRF.out.below hB)
    have t1 := R1.out.below hB
    have t2 := R2.out.below hB
    have k1 := row_cell t1
    obtain ⟨ad, eA, Ac, cc, hF⟩ := fnAt_of HRF3.out (Below.refl _ _) hp1
    subst eA
    have k2 := hF.c0
    simp only [Nat.zero_mul, add_nil] at k2
    have f0 := t2.free 0
    have f1 := t2.free 1
    have f2 := t2.free 2
    have f3 := t2.free 3
    have f4 := t2.free 4
    have g0 := t2.cell (k := 0) (by simp)
    have g1 := t2.cell (k := 1) (by simp)
    have g2 := t2.cell (k := 2) (by simp)
    have g3 := t2.cell (k := 3) (by simp)
    have g4 := t2.cell (k := 4) (by simp)
    simp only [List.getElem_cons_succ, List.getElem_cons_zero] at g0 g1 g2 g3 g4
    have T2 := Lib.hid t2
    have HB := Lib.hid (fun (hle : args.length ≤ L) => fresh_any p (some ad) A cp c 0 L args w3 HRF3.out hp1 HL.out L8 (HAR.out.below hB) hle)
    obtain ⟨pa, epa⟩ : ∃ pa, p[0].args = pa := ⟨_, rfl⟩
    rw [epa] at k2 HE AL HNL
    have HA := Lib.hid (numbers_any A c args pa w3 (HAR.out.below hB))
    obtain ⟨xa, exa⟩ : ∃ xa, numbersB args pa = xa := ⟨_, rfl⟩
    rw [exa] at HA HE HNL
    clear hB t1 t2 hF q1 hw1 hw2 exa epa
    by_cases hgo : (xa = true ∧ 0 ≤ fuel ∧ fuel ≤ 100000)
    · obtain ⟨rfl, h2, h3⟩ := hgo
      have h1 := HNL.out rfl
      have d2 : decide (fuel < 0) = false := by simpa using h2
      have d3 : decide (100000 < fuel) = false := by simpa using h3
      have HS := Lib.hid (show startB p args fuel = true by rw [HE.out, decide_eq_true h2, decide_eq_true h3]; rfl)
      have HLE := Lib.hid (show args.length ≤ L by have := AL.out; have := HL.out; omega)
      clear h1
      go_wp2_with (go_at_call 50; refine HA.out.mono ?_; rintro e w' ⟨rfl, rfl⟩)
      refine (HB.out HLE.out).mono ?_
      rintro e w4 ⟨g, rfl, hrg, hgl, hB4⟩
      obtain ⟨w5, hw5⟩ : ∃ w5, w4.alloc (.cells #[.int .i64 0, .int .i64 0, .slice (some ⟨g, 0, none⟩) L L, .slice none 0 0] 68) = w5 := ⟨_, rfl⟩
      have b5 : Below w4.heap.size w4 w5 := hw5 ▸ below_alloc (Below.refl _ _) _
      have r5 : RowAt 68 w4.heap.size [.int .i64 0, .int .i64 0, .slice (some ⟨g, 0, none⟩) L L, .slice none 0 0] w5 := hw5 ▸ RowAt.new _ _ w4
      have b35 := below_trans hB4 b5
      have t5 := T2.out.below b35
      have f0 := t5.free 0
      have f1 := t5.free 1
      have f2 := t5.free 2
      have f3 := t5.free 3
      have f4 := t5.free 4
      have g0 := t5.cell (k := 0) (by simp)
      have g1 := t5.cell (k := 1) (by simp)
      have g2 := t5.cell (k := 2) (by simp)
      have g3 := t5.cell (k := 3) (by simp)
      have g4 := t5.cell (k := 4) (by simp)
      simp only [List.getElem_cons_succ, List.getElem_cons_zero] at g0 g1 g2 g3 g4
      have pz := put5 t5 rfl (.slice (some ⟨w4.heap.size, 0, none⟩) 1 1) (.int .i64 fuel) (.slice none 0 0) (.int .i64 0) (.int .i64 0)
      have hzz := B3.out.size
      have hz2 := B23.out.size
      have hz3 := blk_lt T2.out
      have hz4 := hB4.size
      have hgs := blk_lt hrg
      have EE := Lib.hid pz.1
      have KB := Lib.hid (below_keep (below_trans B3.out b35) pz.2 (by have := Z1.out; omega))
      have OF := Lib.hid (own_one (base := w.heap.size) (f := ⟨0, 0, beginL args L, []⟩) ((hrg.below b5).keeps pz.2 (by omega)) (by omega) (beginL_len HLE.out) L8 rfl (r5.keeps pz.2 (by omega)) (by omega) (by omega))
      clear pz hzz hz2 hz3 hz4 hgs b5 r5 b35 t5 hrg hgl hB4
      go_wp2_with fail
      have hS : startS p args fuel = ⟨[⟨0, 0, beginL args L, []⟩], fuel, [], 0, 0⟩ := by unfold startS; rw [if_pos HS.out, HEL.out]; rfl
      have hC : startC p args fuel = 0 := by unfold startC; rw [if_pos HS.out]
      exact bodyPost_ret (v := .tuple #[.agg #[.slice (some ⟨w4.heap.size, 0, none⟩) 1 1, .int .i64 fuel, .slice none 0 0, .int .i64 0, .int .i64 0], .int .i64 0]) (by simp [results, Tryz.results70, go_sem, EE.out.1, EE.out.2.1, EE.out.2.2.1, EE.out.2.2.2.1, EE.out.2.2.2.2]) rfl
        ⟨_, .slice none 0 0, _, by rw [hS, hC]; rfl, by rw [hS]; exact ⟨OF.out, CRow.nil _ _ _ _, fun u hu b hb e => by cases e⟩, KB.out⟩
    · have HS := Lib.hid (show startB p args fuel = false by
        rw [HE.out]
        cases xa
        · simp
        · cases h : (true && decide (0 ≤ fuel) && decide (fuel ≤ 100000)) with
          | false => rfl
          | true =>
            simp only [Bool.and_eq_true, decide_eq_true_eq, true_and] at h
            exact absurd ⟨rfl, h.1, h.2⟩ hgo)
      clear hgo
      have pz := put5 T2.out rfl (.slice none 0 0) (.int .i64 0) (.slice none 0 0) (.int .i64 0) (.int .i64 0)
      have EE := Lib.hid pz.1
      have KB := Lib.hid (below_keep B3.out pz.2 (by have := Z1.out; omega))
      clear pz
      go_wp2_with (go_at_call 50; refine HA.out.mono ?_; rintro e w' ⟨rfl, rfl⟩)
      all_goals first
        | (refine bodyPost_ret (v := .tuple #[.agg #[.slice none 0 0, .int .i64 0, .slice none 0 0, .int .i64 0, .int .i64 0], .int .i64 600]) ?_ rfl ?_; (· simp [results, Tryz.results70, go_sem, EE.out.1, EE.out.2.1, EE.out.2.2.1, EE.out.2.2.2.1, EE.out.2.2.2.2]); exact ⟨.slice none 0 0, .slice none 0 0, [], by rw [(startB_no HS.out).1, (startB_no HS.out).2]; rfl, by rw [(startB_no HS.out).1]; exact OwnS.zero _ _ _ _ _, KB.out⟩)
        | (exfalso; have h := HE.out; rw [HS.out] at h; simp_all; done)
        | (exfalso; have h := HE.out; rw [HS.out] at h; simp_all; omega)
  · have dv : (vf != 0) = true := by simpa using hv
    have HS := Lib.hid (show startB p args fuel = false by unfold startB; rw [HVF.out, decide_eq_false hv]; rfl)
    clear hv
    go_enter Tryz.func70, Tryz.ntmps70
    go_wp2_with fail
    refine HP.out.mono ?_
    rintro e w3 ⟨rfl, hB⟩
    have t2 := R2.out.below hB
    have f0 := t2.free 0
    have f1 := t2.free 1
    have f2 := t2.free 2
    have f3 := t2.free 3
    have f4 := t2.free 4
    have g0 := t2.cell (k := 0) (by simp)
    have g1 := t2.cell (k := 1) (by simp)
    have g2 := t2.cell (k := 2) (by simp)
    have g3 := t2.cell (k := 3) (by simp)
    have g4 := t2.cell (k := 4) (by simp)
    simp only [List.getElem_cons_succ, List.getElem_cons_zero] at g0 g1 g2 g3 g4
    have B3 := Lib.hid (below_trans B2.out hB)
    have pz := put5 t2 rfl (.slice none 0 0) (.int .i64 0) (.slice none 0 0) (.int .i64 0) (.int .i64 0)
    have EE := Lib.hid pz.1
    have KB := Lib.hid (below_keep B3.out pz.2 (by have := Z1.out; omega))
    clear pz
    clear hB t2
    go_wp2_with fail
    exact bodyPost_ret (v := .tuple #[.agg #[.slice none 0 0, .int .i64 0, .slice none 0 0, .int .i64 0, .int .i64 0], .int .i64 600]) (by simp [results, Tryz.results70, go_sem, EE.out.1, EE.out.2.1, EE.out.2.2.1, EE.out.2.2.2.1, EE.out.2.2.2.2]) rfl
          ⟨.slice none 0 0, .slice none 0 0, [], by rw [(startB_no HS.out).1, (startB_no HS.out).2]; rfl, by rw [(startB_no HS.out).1]; exact OwnS.zero _ _ _ _ _, KB.out⟩
end Go.Proofs.YtpfgklkdldkajaaGreatDoor
