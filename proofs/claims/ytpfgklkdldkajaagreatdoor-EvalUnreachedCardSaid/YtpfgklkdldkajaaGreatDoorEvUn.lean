/- EvalUnreached: the walk. Code that is never come to turns nothing. Conditions: errors.errorType is laid; the program, the args and the ints lie in memory. -/
import Derived.Test.YtpfgklkdldkajaaGreatDoorEvUnLaw
import Derived.Test.YtpfgklkdldkajaaGreatDoorGZ26
import Derived.Test.YtpfgklkdldkajaaGreatDoorGZ29
import Derived.Test.YtpfgklkdldkajaaGreatDoorGZ09
namespace Go.Proofs.YtpfgklkdldkajaaGreatDoor
open Go.RowKit

theorem insV_app4 (xs ys : List Ins) : insV (xs ++ ys) = insV xs ++ insV ys := by simp [insV]
set_option maxRecDepth 100000 in
set_option maxHeartbeats 8000000 in
theorem evalUnreached_yes (A : Option Addr) (c : Nat) (p : List Fn) (A2 : Option Addr) (c2 : Nat) (args : List Int) (fuel : Int) (A3 : Option Addr) (c3 : Nat) (ms : List Int) (W : World) (hl : Laid W) (hr : ReadsF W A p) (hz : Fits p) (ha : ReadsI W A2 args) (hm : ReadsI W A3 ms) :
    Calls Tryz.prog 9 #[.agg #[.slice A p.length c], .slice A2 args.length c2, .int .i64 fuel, .slice A3 ms.length c3] W (Ret (.bool true) W) := by
  obtain ⟨w1, hw1⟩ : ∃ w1, W.alloc (.cells #[.slice A p.length c] 24) = w1 := ⟨_, rfl⟩
  have b1 : Below W.heap.size W w1 := hw1 ▸ below_alloc (Below.refl _ _) _
  have P := Lib.hid (hw1 ▸ RowAt.new _ _ W : RowAt 24 W.heap.size [.slice A p.length c] w1)
  have HA := Lib.hid (awake8_any w1 (hl.below b1))
  have RF := Lib.hid (hr.below b1)
  have RA := Lib.hid (ha.below b1)
  have RM := Lib.hid (hm.below b1)
  have BB := Lib.hid b1
  have HL := Lib.hid hl
  have HFZ := Lib.hid hz
  have hn1 := hr.1
  have hn2 := ha.1
  have hn3 := hm.1
  clear hl hr ha hm b1 hz
  go_enter Tryz.func9, Tryz.ntmps9
  go_wp2_with fail
  (with_reducible refine HA.out.mono ?_)
  rintro e w2 ⟨rfl, hB2⟩
  replace P := Lib.hid (P.out.below hB2)
  replace RF := Lib.hid (RF.out.below hB2)
  replace RA := Lib.hid (RA.out.below hB2)
  replace RM := Lib.hid (RM.out.below hB2)
  replace BB := Lib.hid (below_trans BB.out hB2)
  clear hB2 hw1 HA
  have p0 := row_cell P.out
  have HV := Lib.hid (rverify_any p A c w2 RF.out)
  obtain ⟨vf, hvf⟩ : ∃ vf, verifyOf p = vf := ⟨_, rfl⟩
  rw [hvf] at HV
  go_wp2_with fail
  (with_reducible refine HV.out.mono ?_)
  rintro e w3 ⟨rfl, hB3⟩
  replace P := Lib.hid (P.out.below hB3)
  replace RF := Lib.hid (RF.out.below hB3)
  replace RA := Lib.hid (RA.out.below hB3)
  replace RM := Lib.hid (RM.out.below hB3)
  replace BB := Lib.hid (below_trans BB.out hB3)
  clear hB3 HV p0
  by_cases hv : vf = 0
  case neg =>
    have dv : (vf != 0) = true := by simpa using hv
    go_wp2_with fail
    go_ret
    exact ⟨rfl, BB.out⟩
  subst hv
  have hp8 := packs_len (verifyOf_packs hvf)
  have HVP := Lib.hid hvf
  have HP8 := Lib.hid hp8
  have p0 := row_cell P.out
  have HCP := Lib.hid (copyProgramG_any A c p w3 RF.out HFZ.out)
  go_wp2_with fail
  (with_reducible refine HCP.out.mono ?_)
  rintro e w4 ⟨ao, cap, vss, rfl, hO, hB4⟩
  obtain ⟨w5, hw5⟩ : ∃ w5, w4.alloc (.cells #[.slice ao p.length cap] 24) = w5 := ⟨_, rfl⟩
  have b5 : Below w4.heap.size w4 w5 := hw5 ▸ below_alloc (Below.refl _ _) _
  have Q5 := Lib.hid (hw5 ▸ RowAt.new _ _ w4 : RowAt 24 w4.heap.size [.slice ao p.length cap] w5)
  have O5 := Lib.hid (show OwnP w5 w3.heap.size (.slice ao p.length cap) p vss from OwnG.below hO b5)
  have LO5 := Lib.hid (show ∀ u ∈ (.slice ao p.length cap) :: vss.flatten, ∀ b, ob u = some b → b ≠ w4.heap.size from fun u hu b hb e => by have := (OwnG.lo hO u hu b hb).2; omega)
  have B35 := Lib.hid (below_trans hB4 b5)
  have Z4 := Lib.hid hB4.size
  clear hO hB4 b5 hvf HCP p0
  go_wp2_with fail
  clear hw5 hp8
  go_loopw [10] (fun s wr => ∃ (i : Nat) (q : List Fn) (vs : List (List Value)), s = .int .i64 i ∧ i ≤ 10 ∧ Ext p q ∧ verifyOf q = 0 ∧ OwnP wr w3.heap.size (.slice ao p.length cap) q vs ∧ (∀ u ∈ (.slice ao p.length cap) :: vs.flatten, ∀ b, ob u = some b → b ≠ w4.heap.size) ∧ RowAt 24 w4.heap.size [.slice ao p.length cap] wr ∧ Below w3.heap.size w3 wr) (fun s _ => 10 - (intOf s).toNat)
  case atStart => exact ⟨0, p, vss, rfl, by decide, Ext.refl p, HVP.out, O5.out, LO5.out, Q5.out, B35.out⟩
  case round =>
    obtain ⟨i, q, vs, rfl, hi, hx, hvq, ho, hlo, hq, hb⟩ := hrel
    clear O5 LO5 Q5 B35
    have HX := Lib.hid (And.intro hx hvq)
    have HO := Lib.hid ho
    have HLO := Lib.hid hlo
    have HQ := Lib.hid hq
    have HB := Lib.hid hb
    clear hx hvq ho hlo hq hb
    by_cases hlt : i < ms.length ∧ i < 10
    case neg =>
      obtain ⟨k, hk, k0, k1⟩ : ∃ k : Int, bits .and .i64 fuel 4095 = k ∧ 0 ≤ k ∧ k ≤ 4095 := ⟨fuel % 4096, i64_m4095 _, by omega, by omega⟩
      obtain ⟨le1, le2⟩ := unreached_law HX.out.1 HVP.out HX.out.2 args k
      obtain ⟨hql, hrq⟩ := OwnP.reads HO.out
      have P2 := Lib.hid (P.out.below HB.out)
      have Q2 := Lib.hid HQ.out
      have RF2 := Lib.hid (RF.out.below HB.out)
      have RA2 := Lib.hid (RA.out.below HB.out)
      have RQ2 := Lib.hid hrq
      have BB2 := Lib.hid (below_trans BB.out HB.out)
      have p0 := row_cell P2.out
      obtain ⟨R1, hR1⟩ : ∃ R1, evalR p args k = R1 := ⟨_, rfl⟩
      obtain ⟨C1, hC1⟩ : ∃ C1, evalC p args k = C1 := ⟨_, rfl⟩
      rw [hR1] at le1
      rw [hC1] at le2
      have H1 := Lib.hid (eval_n (fuel := k) (cp := c) (c := c2) (HL.out.below BB2.out) RF2.out RA2.out rfl rfl hR1 hC1 rfl)
      have LE := Lib.hid (And.intro le1 (And.intro le2 hql.symm))
      obtain ⟨t0, t1⟩ | ⟨t0, t1⟩ : (decide (i < ms.length) = false ∧ True) ∨ (decide (i < ms.length) = true ∧ decide ((i : Int) < 10) = false) := by
        by_cases h : i < ms.length
        · exact .inr ⟨decide_eq_true h, decide_eq_false (by omega)⟩
        · exact .inl ⟨decide_eq_false h, trivial⟩
      all_goals
        clear hR1 hC1 k0 k1 le1 le2 hql hrq hlt hi
        go_wp2_with fail
        (with_reducible refine H1.out.mono ?_)
        rintro e w6 ⟨A6, c6, rfl, hc6, hR6, hB6⟩
        obtain ⟨w7, hw7⟩ : ∃ w7, w6.alloc (.cells #[.int .i64 R1.done, .int .i64 R1.value, .slice A6 R1.out.length c6, .int .i64 R1.fuel] 74) = w7 := ⟨_, rfl⟩
        have b7 : Below w6.heap.size w6 w7 := hw7 ▸ below_alloc (Below.refl _ _) _
        have b67 := below_trans hB6 b7
        have X := Lib.hid (hw7 ▸ RowAt.new _ _ w6 : RowAt 74 w6.heap.size [.int .i64 R1.done, .int .i64 R1.value, .slice A6 R1.out.length c6, .int .i64 R1.fuel] w7)
        have RO := Lib.hid (hR6.below b7)
        replace Q2 := Lib.hid (Q2.out.below b67)
        replace RQ2 := Lib.hid (RQ2.out.below b67)
        replace RA2 := Lib.hid (RA2.out.below b67)
        replace BB2 := Lib.hid (below_trans BB2.out b67)
        have H2 := Lib.hid (eval_n (fuel := k) (cp := cap) (c := c2) (HL.out.below BB2.out) RQ2.out RA2.out LE.out.2.2 rfl LE.out.1 LE.out.2.1 rfl)
        clear hc6 hR6 hB6 b7 b67 H1 p0
        have p0 := row_cell Q2.out
        go_wp2_with fail
        (with_reducible refine H2.out.mono ?_)
        rintro e w8 ⟨A8, c8, rfl, hc8, hR8, hB8⟩
        obtain ⟨w9, hw9⟩ : ∃ w9, w8.alloc (.cells #[.int .i64 R1.done, .int .i64 R1.value, .slice A8 R1.out.length c8, .int .i64 R1.fuel] 74) = w9 := ⟨_, rfl⟩
        have b9 : Below w8.heap.size w8 w9 := hw9 ▸ below_alloc (Below.refl _ _) _
        have b89 := below_trans hB8 b9
        have Y := Lib.hid (hw9 ▸ RowAt.new _ _ w8 : RowAt 74 w8.heap.size [.int .i64 R1.done, .int .i64 R1.value, .slice A8 R1.out.length c8, .int .i64 R1.fuel] w9)
        replace X := Lib.hid (X.out.below b89)
        replace RO := Lib.hid (RO.out.below b89)
        have RO2 := Lib.hid (hR8.below b9)
        replace BB2 := Lib.hid (below_trans BB2.out b89)
        have HNUM := Lib.hid (fun (n : Int) (W : World) => numL_any n W)
        clear hw7 hc8 hR8 hB8 b9 b89 H2 p0
        have x0 := X.out.cell (k := 0) (by simp)
        have x1 := X.out.cell (k := 1) (by simp)
        have x2 := X.out.cell (k := 2) (by simp)
        have x3 := X.out.cell (k := 3) (by simp)
        have y0 := Y.out.cell (k := 0) (by simp)
        have y1 := Y.out.cell (k := 1) (by simp)
        have y2 := Y.out.cell (k := 2) (by simp)
        have y3 := Y.out.cell (k := 3) (by simp)
        simp only [List.getElem_cons_zero, List.getElem_cons_succ] at x0 x1 x2 x3 y0 y1 y2 y3
        have HS := Lib.hid (same_n (x := R1) (y := R1) (c := c6) (d := c8) (b := true) RO.out RO2.out rfl rfl (by simp))
        have dc : (C1 == C1) = true := by simp
        go_wp2_with (first | (go_at_call 19; (with_reducible refine (HNUM.out _ _).mono ?_); rintro e wn ⟨rfl, rfl⟩) | (go_at_call 40; (with_reducible refine HS.out.mono ?_); rintro e wa ⟨rfl, hBa⟩; have HBA := Lib.hid hBa; clear hBa) | fail)
        go_ret
        exact ⟨rfl, below_trans BB2.out HBA.out⟩
    have HI := Lib.hid (And.intro hlt hi)
    have t0 : decide (i < ms.length) = true := decide_eq_true hlt.1
    have t1 : decide ((i : Int) < 10) = true := decide_eq_true (by omega)
    obtain ⟨am, eAm, cm⟩ := (RM.out.below HB.out).at_ hlt.1
    subst eAm
    obtain ⟨m, em⟩ : ∃ m, ms[i] = m := ⟨_, rfl⟩
    rw [em] at cm
    obtain ⟨j, hj, hjl⟩ := u64_rem m p.length (by have := HP8.out; omega) (by have := HP8.out; omega)
    have hpu : IntKind.u64.wrap (p.length : Int) = p.length := by rw [IntKind.wrap_u64]; have := HP8.out; omega
    have hpne : ((p.length : Int) == 0) = false := beq_eq_false_iff_ne.2 (by have := HP8.out; omega)
    have hp1 : (0 : Int) < p.length := by have := HP8.out; omega
    have q0 := row_cell HQ.out
    have HJL := Lib.hid hjl
    have e5 : wrap64 ((i : Int) + 1) = (i : Int) + 1 := by unfold wrap64; omega
    have hi1 := hlt.1
    have hi2 : (i : Int) < (ms.length : Int) := by omega
    clear em hlt hi
    go_upto_region 9 with fail
    go_quiet (fail)
    have hqb : Below wr.heap.size wr (wr.drewN nq) := below_drew (Below.refl _ _) nq
    obtain ⟨wq, hwq⟩ : ∃ wq, wr.drewN nq = wq := ⟨_, rfl⟩
    rw [hwq] at hqb ⊢
    rw [hj]
    clear hwq cm t0 t1 hi1 hi2 hpu hpne hp1 q0 hj
    have OQ := Lib.hid (OwnG.below HO.out hqb)
    have QQ := Lib.hid (HQ.out.below hqb)
    have BQ := Lib.hid (below_trans HB.out hqb)
    clear HO HQ HB hqb
    have hql : q.length = p.length := HX.out.1.len
    obtain ⟨g, off, eA, hg1, hg2, hob, hj', A1, c1, ev, hin, d0, d1, d2, hfz⟩ := OwnP.at_ OQ.out (k := j) (by have := HJL.out; omega)
    subst eA
    obtain ⟨f, hf⟩ : ∃ f, q[j]'(by have := HJL.out; omega) = f := ⟨_, rfl⟩
    rw [hf] at ev hin d0 d1 d2
    have HF := Lib.hid hf
    have HEV := Lib.hid ev
    have HIN := Lib.hid hin
    have HZF := Lib.hid hfz
    have OB := Lib.hid hob
    have HG := Lib.hid (And.intro hg1 hg2)
    have HJV := Lib.hid hj'
    have hfm := fnMay_of (packs_fn (verifyOf_packs HX.out.2) (k := j) (by have := HJL.out; omega))
    rw [hf] at hfm
    have hcl := codeMay_len hfm.2.2.2.2
    obtain ⟨M, hM⟩ : ∃ M, f.code.length = M + 1 := ⟨f.code.length - 1, by omega⟩
    have hM64 : M + 1 ≤ 64 := by omega
    have HM := Lib.hid hM
    have HRO := Lib.hid (CRow.code hin)
    have x0 := (HRO.out.at_ (Below.refl _ _) (k := M) (by omega))
    obtain ⟨ac, eAc, x0, -⟩ := x0
    subst eAc
    obtain ⟨xk, hxk⟩ : ∃ xk, (f.code[M]'(by omega)).kind = xk := ⟨_, rfl⟩
    rw [hxk] at x0
    rw [hM] at d2 HEV HIN
    have hjp : (j : Int) < p.length := by have := HJL.out; omega
    have q0 := row_cell QQ.out
    obtain ⟨w6, hw6⟩ : ∃ w6, wq.alloc (.cells #[.int .i64 f.args, .int .i64 f.locals, .slice (some ac) (M + 1) c1] 86) = w6 := ⟨_, rfl⟩
    have b6 : Below wq.heap.size wq w6 := hw6 ▸ below_alloc (Below.refl _ _) _
    have rF := hw6 ▸ (RowAt.new _ _ wq : RowAt 86 wq.heap.size [.int .i64 f.args, .int .i64 f.locals, .slice (some ac) (M + 1) c1] _)
    have y6 : w6.heap.size = wq.heap.size + 1 := by rw [← hw6]; simp
    have BQ6 := Lib.hid b6
    have RF6 := Lib.hid rF
    have Y6 := Lib.hid y6
    have eM : f.code.length - 1 = M := by omega
    have HXK := Lib.hid (show ∀ h : f.code.length - 1 < f.code.length, (f.code[f.code.length - 1]'h).kind = xk from fun h => by
      simp only [eM]; exact hxk)
    clear eM
    have HM64 := Lib.hid hM64
    have ew : wrap64 ((M : Int) + 1 - 1) = M := by unfold wrap64; omega
    have x6 := cell_below b6 x0
    clear hg1 hg2 hob ev hin hfz hf hfm hcl hM hxk b6 rF y6 x0
    have f2 := RF6.out.cell (k := 2) (by simp)
    simp only [List.getElem_cons_zero, List.getElem_cons_succ] at f2
    have hmn : M < M + 1 := Nat.lt_succ_self M
    have hmi : (M : Int) < (M : Int) + 1 := by omega
    by_cases h63 : (M : Int) + 1 < 64
    case neg =>
      have t2 : decide ((M : Int) + 1 < 64) = false := decide_eq_false h63
      have FN := Lib.hid (show OwnP w6 w3.heap.size (.slice (some ⟨g, off, none⟩) p.length cap) q vs ∧ RowAt 24 w4.heap.size [.slice (some ⟨g, off, none⟩) p.length cap] w6 ∧ Below w3.heap.size w3 w6 from ⟨OwnG.below OQ.out BQ6.out, QQ.out.below BQ6.out, below_trans BQ.out BQ6.out⟩)
      clear h63
      go_wp2_with fail
      go_roundw
      case rel => exact ⟨i + 1, q, vs, (by first | rfl | (rw [e5]; rfl)), by have := HI.out; omega, HX.out.1, HX.out.2, FN.out.1, HLO.out, FN.out.2.1, FN.out.2.2⟩
      case measure =>
        try rw [e5]
        show 10 - ((i : Int) + 1).toNat < 10 - (i : Int).toNat
        have := HI.out; omega
    by_cases hk16 : xk = 16 ∨ xk = 12
    case neg =>
      have t2 : decide ((M : Int) + 1 < 64) = true := decide_eq_true h63
      have t3 : (xk == 16) = false := beq_eq_false_iff_ne.2 (fun e => hk16 (.inl e))
      have t4 : (xk == 12) = false := beq_eq_false_iff_ne.2 (fun e => hk16 (.inr e))
      have FN := Lib.hid (show OwnP w6 w3.heap.size (.slice (some ⟨g, off, none⟩) p.length cap) q vs ∧ RowAt 24 w4.heap.size [.slice (some ⟨g, off, none⟩) p.length cap] w6 ∧ Below w3.heap.size w3 w6 from ⟨OwnG.below OQ.out BQ6.out, QQ.out.below BQ6.out, below_trans BQ.out BQ6.out⟩)
      clear h63 hk16
      go_wp2_with fail
      go_roundw
      case rel => exact ⟨i + 1, q, vs, (by first | rfl | (rw [e5]; rfl)), by have := HI.out; omega, HX.out.1, HX.out.2, FN.out.1, HLO.out, FN.out.2.1, FN.out.2.2⟩
      case measure =>
        try rw [e5]
        show 10 - ((i : Int) + 1).toNat < 10 - (i : Int).toNat
        have := HI.out; omega
    have t2 : decide ((M : Int) + 1 < 64) = true := decide_eq_true h63
    have LE6 := Lib.hid (show w3.heap.size ≤ wq.heap.size from BQ.out.size)
    have hrow6 : CRow w6 w3.heap.size 62 2 (.slice (some ac) (M + 1) c1) (M + 1) (insV f.code) := by
      have := CRow.below HIN.out BQ6.out
      unfold innC at this
      simp only at this
      rwa [HM.out] at this
    have b7 := below_alloc (Below.refl w6.heap.size w6) (.cells #[.int .i64 16, .int .i64 0] 62)
    have rN : RowAt 62 w6.heap.size (insV [⟨16, 0⟩]) (w6.alloc (.cells #[.int .i64 16, .int .i64 0] 62)) := RowAt.new 62 [.int .i64 16, .int .i64 0] w6
    have hsrc : Src Tryz.prog 2 63 (.slice (some ⟨w6.heap.size, 0, none⟩) 1 1) 1 (insV [⟨16, 0⟩]) (w6.alloc (.cells #[.int .i64 16, .int .i64 0] 62)) := code_src (xs := [⟨16, 0⟩]) Tryz.underlying63 (codeL rN (by simp))
    obtain ⟨ii, hi0, hz0, hs2, hbb⟩ := info_parts info_ins
    obtain ⟨v', w8, hrun, hG⟩ := run_append_crow (P := Tryz.prog) (w6.alloc (.cells #[.int .i64 16, .int .i64 0] 62)) 63 62 63 63 ii _ 2 16 Tryz.underlying63 hi0 hz0 hs2 hbb rfl w3.heap.size (some ac) (M + 1) c1 (insV f.code) (hrow6.below b7) (by have := b7.size; have := BQ6.out.size; have := LE6.out; omega)
      (.slice (some ⟨w6.heap.size, 0, none⟩) 1 1) 1 (insV [⟨16, 0⟩]) hsrc (by omega) (by unfold maxLen; omega)
    obtain ⟨ao2, cap2, rfl, _, _⟩ := hG.row.shape
    have hio : ∀ b, ob (.slice (some ac) (M + 1) c1) = some b → w3.heap.size ≤ b ∧ b < wq.heap.size := fun b hb => CRow.in_ HIN.out b hb
    have B68 : Chg (fun b => ob (.slice (some ac) (M + 1) c1) = some b) w6 w8 := (Chg.of_below b7).trans hG.chg (fun _ _ h => h)
    have rF8 := RF6.out.chg B68 (fun e => by have := (hio _ e).2; omega)
    have T1 := rF8.cell (k := 2) (by simp)
    simp only [List.getElem_cons_zero, List.getElem_cons_succ] at T1
    have T2 := rF8.free 2
    have rF9 := rF8.put 2 (.slice ao2 (M + 1 + 1) cap2)
    simp only [List.set_cons_zero, List.set_cons_succ] at rF9
    obtain ⟨w9, hw9⟩ : ∃ w9, w8.setCell ⟨wq.heap.size, 2, none⟩ (.slice ao2 (M + 1 + 1) cap2) = w9 := ⟨_, rfl⟩
    rw [hw9] at rF9
    have ch : Chg (fun b => ob (.slice (some ac) (M + 1) c1) = some b ∨ b = wq.heap.size) wq w9 := hw9 ▸ (((Chg.of_below (S := fun b => ob (.slice (some ac) (M + 1) c1) = some b ∨ b = wq.heap.size) BQ6.out).trans B68 (fun _ _ h => .inl h)).put (a := ⟨wq.heap.size, 2, none⟩) (.inr rfl) _)
    have hjl := HJL.out
    have hqlen : q.length = p.length := HX.out.1.len
    have hl0 : 0 < (vs[j]'HJV.out).length := by simp [HEV.out]
    have he0 : (vs[j]'HJV.out)[0] = .slice (some ac) (M + 1) c1 := by simp [HEV.out]
    have hmemv : (vs[j]'HJV.out) ∈ vs := List.getElem_mem _
    have hgS : ¬ (ob (.slice (some ac) (M + 1) c1) = some g ∨ g = wq.heap.size) := fun h => by
      rcases h with h | h
      · exact OQ.out.sep.one j HJV.out 0 hl0 g OB.out (by rw [he0]; exact h)
      · have := HG.out.2; omega
    have hqS : ¬ (ob (.slice (some ac) (M + 1) c1) = some w4.heap.size ∨ w4.heap.size = wq.heap.size) := fun h => by
      rcases h with h | h
      · exact HLO.out _ (List.mem_cons_of_mem _ (List.mem_flatten.2 ⟨_, hmemv, by simp [HEV.out]⟩)) _ h rfl
      · have := blk_lt QQ.out; omega
    have hu : InnAt w9 w3.heap.size (.slice ao2 (M + 1 + 1) cap2) (innC (growF f).code) := by
      have h := hG.row
      rw [← insV_app4] at h
      have h2 : CRow w9 w3.heap.size 62 2 (.slice ao2 (M + 1 + 1) cap2) (M + 1 + 1) (insV (f.code ++ [⟨16, 0⟩])) := h.chg (S := fun b => b = wq.heap.size) (hw9 ▸ Chg.put (S := fun b => b = wq.heap.size) (Chg.refl _ w8) (a := ⟨wq.heap.size, 2, none⟩) rfl _) (fun b hb e => by
        rcases hG.at_ b hb with h3 | h3
        · have := (hio b h3).2; omega
        · have := b7.size; have := Y6.out; omega)
      have hlc : (growF f).code.length = M + 1 + 1 := by unfold growF; simp [HM.out]
      show CRow w9 w3.heap.size 62 2 (.slice ao2 (M + 1 + 1) cap2) (growF f).code.length (insV (growF f).code)
      rw [hlc]; exact h2
    have hst := OwnP.store OQ.out (k := j) (by omega) HJV.out (growF f) (.slice ao2 (M + 1 + 1) cap2) ch hgS (fun b hb i hi q' hq hne e => by
      rcases hb with h | h
      · exact OQ.out.sep.two j HJV.out 0 hl0 i hi q' hq (.inl (fun e => hne e.symm)) b (by rw [he0]; exact h) e
      · have := (OwnG.lo OQ.out _ (List.mem_cons_of_mem _ (List.mem_flatten.2 ⟨_, List.getElem_mem hi, List.getElem_mem hq⟩)) b e).2
        omega) hu (fun b hb => by
      rcases hG.at_ b hb with h3 | h3
      · exact .inl ⟨0, hl0, by rw [he0]; exact h3⟩
      · exact .inr (by have := b7.size; have := BQ6.out.size; omega))
    have e0' := ch.cell d0 hgS
    have e1' := ch.cell d1 hgS
    have e2' := ch.cell d2 hgS
    have z0 := ch.free (HZF.out 0 (by decide)) HG.out.2 hgS
    have z1 := ch.free (HZF.out 1 (by decide)) HG.out.2 hgS
    have z2 := ch.free (HZF.out 2 (by decide)) HG.out.2 hgS
    rw [Nat.add_zero] at z0
    have q9 := QQ.out.chg ch hqS
    have qc := row_cell q9
    have g0 := rF9.cell (k := 0) (by simp)
    have g1 := rF9.cell (k := 1) (by simp)
    have g2 := rF9.cell (k := 2) (by simp)
    simp only [List.getElem_cons_zero, List.getElem_cons_succ] at g0 g1 g2
    have hq6 := cell_below BQ6.out q0
    have B39 := Chg.below BQ.out ch (fun b hb => by
      rcases hb with h | h
      · exact (hio b h).1
      · have := LE6.out; omega)
    obtain ⟨w10, hw10⟩ : ∃ w10, (((w9.setCell ⟨g, off + j * 3, none⟩ (.int .i64 f.args)).setCell ⟨g, off + j * 3 + 1, none⟩ (.int .i64 f.locals)).setCell ⟨g, off + j * 3 + 2, none⟩ (.slice ao2 (M + 1 + 1) cap2)) = w10 := ⟨_, rfl⟩
    have c10 : Chg (fun b => b = g) w9 w10 := hw10 ▸ (((Chg.refl (fun b => b = g) w9).put (a := ⟨g, off + j * 3, none⟩) rfl _).put (a := ⟨g, off + j * 3 + 1, none⟩) rfl _).put (a := ⟨g, off + j * 3 + 2, none⟩) rfl _
    have hst10 : OwnP w10 w3.heap.size (.slice (some ⟨g, off, none⟩) p.length cap) (q.set j (growF f)) (vs.set j [.slice ao2 (M + 1 + 1) cap2]) := hw10 ▸ hst
    have hne4 : ∀ b, ob (.slice ao2 (M + 1 + 1) cap2) = some b → b ≠ w4.heap.size := fun b hb e => by
      rcases hG.at_ b hb with h3 | h3
      · exact hqS (.inl (e ▸ h3))
      · have := b7.size; have := BQ6.out.size; have := blk_lt QQ.out; omega
    have hgrow : Ext p (q.set j (growF f)) ∧ verifyOf (q.set j (growF f)) = 0 := by
      have hj2 : j < q.length := by omega
      have e : q[j]'hj2 = f := HF.out
      have h1 := HX.out.1.grow hj2
      have h2 := verify_grow HX.out.2 hj2 (by rw [e, HM.out]; omega) (fun h => by
        have h3 : ∀ (f' : Fn) (h : f'.code.length - 1 < f'.code.length), f' = f → (f'.code[f'.code.length - 1]'h).kind = xk := fun f' h ef => by subst ef; exact HXK.out h
        rw [h3 _ h e]; exact hk16)
      rw [e] at h1 h2
      exact ⟨h1, h2⟩
    have FN := Lib.hid (show (Ext p (q.set j (growF f)) ∧ verifyOf (q.set j (growF f)) = 0) ∧ OwnP w10 w3.heap.size (.slice (some ⟨g, off, none⟩) p.length cap) (q.set j (growF f)) (vs.set j [.slice ao2 (M + 1 + 1) cap2]) ∧ (∀ u ∈ (.slice (some ⟨g, off, none⟩) p.length cap) :: (vs.set j [.slice ao2 (M + 1 + 1) cap2]).flatten, ∀ b, ob u = some b → b ≠ w4.heap.size) ∧ RowAt 24 w4.heap.size [.slice (some ⟨g, off, none⟩) p.length cap] w10 ∧ Below w3.heap.size w3 w10 from
      ⟨hgrow, hst10, fun u hu b hb => by
        rcases List.mem_cons.1 hu with rfl | hu
        · exact HLO.out _ (List.mem_cons_self ..) b hb
        · obtain ⟨l, hl, hul⟩ := List.mem_flatten.1 hu
          rcases List.mem_or_eq_of_mem_set hl with h | h
          · exact HLO.out u (List.mem_cons_of_mem _ (List.mem_flatten.2 ⟨l, h, hul⟩)) b hb
          · subst h
            rw [List.mem_singleton] at hul
            subst hul
            exact hne4 b hb, q9.chg c10 (fun e => HLO.out _ (List.mem_cons_self ..) g OB.out e.symm), Chg.below B39 c10 (fun b hb => by rw [hb]; exact HG.out.1)⟩)
    have HK16 := Lib.hid hk16
    obtain ⟨t3, t4⟩ | ⟨t3, t4⟩ : ((xk == 16) = true ∧ True) ∨ ((xk == 16) = false ∧ (xk == 12) = true) := by
      by_cases h : xk = 16
      · exact .inl ⟨by simpa using h, trivial⟩
      · exact .inr ⟨by simpa using h, by simpa using hk16.resolve_left h⟩
    all_goals
      clear hrow6 b7 rN hsrc hi0 hz0 hs2 hbb hG hio B68 rF8 rF9 ch hjl hqlen hl0 he0 hmemv hgS hqS hu hst q9 B39 c10 hst10 hne4 hgrow hk16 h63
      go_wp2_with (first | (at_builtin; refine wpList_append_run _ rfl _ _ _ _ rfl _ _ _ _ rfl rfl hrun ?_) | fail)
      go_roundw
      case rel => exact ⟨i + 1, _, _, (by first | rfl | (rw [e5]; rfl)), by have := HI.out; omega, FN.out.1.1, FN.out.1.2, FN.out.2.1, FN.out.2.2.1, FN.out.2.2.2.1, FN.out.2.2.2.2⟩
      case measure =>
        try rw [e5]
        show 10 - ((i : Int) + 1).toNat < 10 - (i : Int).toNat
        have := HI.out; omega
end Go.Proofs.YtpfgklkdldkajaaGreatDoor
