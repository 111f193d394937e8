/- The law VerifyFlows, walked: in what is verified each pc that is reached has what it takes, and leaves to each one next to it what that has. Conditions: the program lies in memory; errors.errorType is laid. -/
import Derived.Test.YtdjlaglilokjeaaDoorVerLaw
import Derived.Test.YtdjlaglilokjeaaDoorVerifies
import Derived.Deep.DeepCutAuto
namespace Go.Proofs.YtdjlaglilokjeaaDoor
open Go.RowKit

set_option maxRecDepth 100000 in
set_option maxHeartbeats 8000000 in
theorem flowsLaw_yes (A : Option Addr) (c : Nat) (p : List Fn) (W : World) (hl : Laid W) (hr : ReadsF W A p) (_hz : Fits p) :
    Calls Tryd.prog 4 #[.agg #[.slice A p.length c]] W (Ret (.bool true) W) := by
  obtain ⟨w1, hw1⟩ : ∃ w1, W.alloc (.cells #[.slice A p.length c] 24) = w1 := ⟨_, rfl⟩
  have b1 : Below W.heap.size W w1 := hw1 ▸ below_alloc (Below.refl _ _) _
  have p1 : w1.cell? ⟨W.heap.size, 0, none⟩ = some (.slice A p.length c) := hw1 ▸ (blk_cell (blk_new W _) 0).trans rfl
  have hn := hr.1
  have HL := Lib.hid hl
  have HR := Lib.hid hr
  have B1 := Lib.hid b1
  have P1 := Lib.hid p1
  have HA := Lib.hid (awakeV_any w1 (hl.below b1))
  clear hl hr b1 p1
  go_enter Tryd.func4, Tryd.ntmps4
  go_wp2_with fail
  refine HA.out.mono ?_
  rintro e w2 ⟨rfl, hB⟩
  have B2 := Lib.hid (below_trans B1.out hB)
  have p2 := (hB.cell (World.block_lt_of_cell? _ _ P1.out)).trans P1.out
  have P2 := Lib.hid p2
  have HP := Lib.hid (program_any p A c w2 (HL.out.below B2.out) (HR.out.below B2.out))
  obtain ⟨vf, hvf⟩ : ∃ vf, verifyOf p = vf := ⟨_, rfl⟩
  rw [hvf] at HP
  have HVF := Lib.hid hvf
  clear hB hw1 hvf HA
  by_cases hv : vf = 0
  · subst hv
    go_wp2_with (first | (go_at_call 16; refine (num_any _ _).mono ?_; rintro e wn ⟨rfl, rfl⟩) | (go_at_call 17; refine HP.out.mono ?_; rintro e w3 ⟨rfl, hB3⟩))
    obtain ⟨w3, rfl⟩ : ∃ w3 : World, w3 = wn := ⟨_, rfl⟩
    have B3 := Lib.hid (below_trans B2.out hB3)
    have P3 := Lib.hid ((hB3.cell (World.block_lt_of_cell? _ _ P2.out)).trans P2.out)
    have HPK := Lib.hid (verifyOf_packs HVF.out)
    have hp8 := (packs_len HPK.out).2
    clear hB3 p2
    go_loopg [3] (p.length) (fun m i wr => ∃ k : Nat, k + m = p.length ∧ i = .int .i64 k ∧ Below w3.heap.size w3 wr)
    case atStart => exact ⟨0, by omega, rfl, Below.refl _ _⟩
    case round =>
      obtain ⟨k, hk, rfl, hB⟩ := hrel
      have HB := Lib.hid hB
      have pp := (hB.cell (World.block_lt_of_cell? _ _ P3.out)).trans P3.out
      clear hB
      by_cases hlt : k < p.length
      · skip
        have B5 := Lib.hid (below_trans B3.out HB.out)
        obtain ⟨ad, eA, Ac, cc, hF⟩ := fnAt_of HR.out B5.out hlt
        subst eA
        have q0 := hF.c0
        have q1 := hF.c1
        have q2 := hF.c2
        have hm := (fnMay_of (packs_fn HPK.out hlt)).2.2.2.2
        have h0 := verifyOf_fn HVF.out hlt
        have hgd := heights_good hm h0
        have hln := heights_len h0
        obtain ⟨w4, hw4⟩ : ∃ w4, wr.alloc (.cells #[.int .i64 p[k].args, .int .i64 p[k].locals, .slice Ac p[k].code.length cc] 42) = w4 := ⟨_, rfl⟩
        have b4 : Below wr.heap.size wr w4 := hw4 ▸ below_alloc (Below.refl _ _) _
        have hF4 : FnAt w4 ⟨wr.heap.size, 0, none⟩ p[k] Ac cc := hw4 ▸ fnAt_new p[k] Ac cc wr hF.r
        have p4 := (b4.cell (World.block_lt_of_cell? _ _ pp)).trans pp
        have P4 := Lib.hid p4
        have HF := Lib.hid hF4
        have B4 := Lib.hid (below_trans B5.out b4)
        have B34 := Lib.hid (below_trans HB.out b4)
        have HV := Lib.hid (heightsV_any p (some ad) c k w4 (HL.out.below B4.out) (HR.out.below B4.out))
        rw [heightsOf_yes HPK.out hlt] at HV
        obtain ⟨r, hr⟩ : ∃ r : List Int × Int × Int, heightsF p p[k] = r := ⟨_, rfl⟩
        rw [hr] at HV h0 hgd hln
        obtain ⟨hs, pc0, e0⟩ := r
        have h0' : e0 = 0 := h0
        subst h0'
        have hlen : hs.length = p[k].code.length := hln.1
        have hpl : plainOf p p[k] = none := hln.2.2
        replace hgd : GInv p p[k].code hs [] := hgd
        obtain ⟨hc1, hc64⟩ := codeMay_len hm
        have HG := Lib.hid hgd
        have HLEN := Lib.hid hlen
        have HPL := Lib.hid hpl
        have HC := Lib.hid hm
        clear hr h0 hgd hln hlen hpl hm b4 hF4 hF
        go_wp2_with fail
        refine HV.out.mono ?_
        rintro e w5 hE
        obtain ⟨A5, c5, rfl, hrow5, hB5⟩ := hE.reads
        have HI := Lib.hid hrow5.ints.2
        have B6 := Lib.hid (below_trans B4.out hB5)
        have B35 := Lib.hid (below_trans B34.out hB5)
        have P5 := Lib.hid ((hB5.cell (World.block_lt_of_cell? _ _ P4.out)).trans P4.out)
        have HF5 := Lib.hid (HF.out.below hB5)
        have f2 := HF5.out.c2
        obtain ⟨a5, eA5, ca⟩ := HI.out.at_ (k := 0) (by rw [HLEN.out]; omega)
        subst eA5
        have hz0 : hs[0]'(by rw [HLEN.out]; omega) = 0 := by
          have := HG.out.zero
          rw [List.getElem?_eq_getElem (by rw [HLEN.out]; omega)] at this
          exact Option.some.inj this
        rw [hz0, add_nil] at ca
        obtain ⟨L, hL⟩ : ∃ L, p[k].code.length = L := ⟨_, rfl⟩
        have hsL : hs.length = L := HLEN.out.trans hL
        simp only [hsL]
        rw [hL] at f2 hc1 hc64
        have HLL := Lib.hid hL
        have HSL := Lib.hid hsL
        clear hE hrow5 hB5 hz0 q0 q1 q2 hw4 hL hsL HV p4
        have dL : (L != L) = false := by simp
        have dL1 : decide (L < 1) = false := by simp; omega
        go_wp2_with (go_at_call 16; refine (num_any _ _).mono ?_; rintro e wn ⟨rfl, rfl⟩)
        clear ca f2 dL dL1
        obtain ⟨w6, rfl⟩ : ∃ w6 : World, w6 = wn := ⟨_, rfl⟩
        go_loopg [8] (L) (fun m i wr => ∃ q : Nat, q + m = L ∧ i = .int .i64 q ∧ Below w6.heap.size w6 wr)
        case atStart => exact ⟨0, by omega, rfl, Below.refl _ _⟩
        case round =>
          obtain ⟨q, hq, rfl, hB⟩ := hrel
          have HB7 := Lib.hid hB
          clear hB
          by_cases hql : q < L
          · have hqs : q < hs.length := by rw [HSL.out]; exact hql
            obtain ⟨a6, eA6, ch⟩ := (HI.out.below HB7.out).at_ (k := q) hqs
            cases eA6
            obtain ⟨o, ho⟩ : ∃ o, hs[q] = o := ⟨_, rfl⟩
            rw [ho] at ch
            have hoq : hs[q]? = some o := by rw [List.getElem?_eq_getElem hqs, ho]
            have HOQ := Lib.hid hoq
            clear ho hoq
            by_cases hneg : o = -1
            · have dn : decide (o < 0) = true := by simp; omega
              go_wp2_with fail
              go_roundg (L - (q + 1))
              case measure => omega
              case rel => exact ⟨q + 1, by omega, by go_num, HB7.out⟩
            · have hsd := HG.out.sound q o HOQ.out hneg
              have hgd := (HG.out.good q o HOQ.out hneg).resolve_left (by simp)
              obtain ⟨hqc, g1, g2, g3⟩ := hgd
              have dn : decide (o < 0) = false := by have := hsd.2; simp; omega
              have hmx := may_mem HC.out hqc
              have hrg := ranged_of HC.out HPL.out hsd.1 hqc
              have hx14 := ranged_call hmx hrg
              obtain ⟨a0, a4⟩ := argsOf_in HPK.out p[k].code[q]
              obtain ⟨t0, t4⟩ := takes_in p[k].code[q].kind _ a0 a4
              obtain ⟨pu0, pu2⟩ := puts_in p[k].code[q].kind
              have HEF := Lib.hid (reffect_may hmx a0 a4)
              have hb7 := below_trans B6.out HB7.out
              have F7 := HF5.out.below HB7.out
              obtain ⟨adc, eC, i0, i1⟩ := F7.r.at_ (Below.refl _ _) hqc
              subst eC
              have k0 := F7.c0
              have k1 := F7.c1
              have k2 := F7.c2
              have kP := (HB7.out.cell (World.block_lt_of_cell? _ _ P5.out)).trans P5.out
              have HF7 := Lib.hid F7
              have HB77 := Lib.hid hb7
              have HX := Lib.hid hx14
              have HRC := Lib.hid hsd.1
              have HG3 := Lib.hid g3
              rw [HLL.out] at k2
              clear hmx hrg hx14 hsd g3 hb7 F7
              go_upto_if 80 with fail
              go_cut [9] (fun v wc => v = .int .i64 (argsOf p p[k].code[q]) ∧ Below wr.heap.size wr wc)
              case first =>
                by_cases k14 : p[k].code[q].kind = 14
                · have d14 : (p[k].code[q].kind == 14) = true := by simpa using k14
                  obtain ⟨x0, xl⟩ := HX.out k14
                  obtain ⟨n, hn'⟩ := Int.eq_ofNat_of_zero_le x0
                  have hnl : n < p.length := by rw [hn'] at xl; simpa using xl
                  obtain ⟨adp, ep, j0, j1, _⟩ := HR.out.at_ HB77.out hnl
                  cases ep
                  have ea : argsOf p p[k].code[q] = p[n].args := by unfold argsOf; rw [if_pos k14, hn']; simp [hnl]
                  rw [hn'] at i1
                  have d15 : decide (p.length ≤ n) = false := by simpa using hnl
                  have EA := Lib.hid ea
                  clear ea hn' x0 xl j1
                  go_upto_region 18 with fail
                  go_quiet (fail)
                  go_upto_region 20 with fail
                  go_quiet (fail)
                  go_wp2_with fail
                  go_meet
                  case rel => exact ⟨by rw [EA.out], by first | exact below_drew (Below.refl _ _) _ | exact below_drew (below_drew (Below.refl _ _) _) _⟩
                · have d14 : (p[k].code[q].kind == 14) = false := by simpa using k14
                  have ea : argsOf p p[k].code[q] = 0 := by unfold argsOf; rw [if_neg k14]
                  have EA := Lib.hid ea
                  clear ea
                  go_wp2_with fail
                  go_meet
                  case rel => exact ⟨by rw [EA.out], Below.refl _ _⟩
              case rest =>
                obtain ⟨rfl, hbc⟩ := hcut
                have HU := Lib.hid hbc
                have F8 := HF7.out.below hbc
                obtain ⟨adc', eC, j0, j1⟩ := F8.r.at_ (Below.refl _ _) hqc
                cases eC
                have m0 := F8.c0
                have m1 := F8.c1
                have m2 := F8.c2
                rw [HLL.out] at m2
                have ch8 := (hbc.cell (World.block_lt_of_cell? _ _ ch)).trans ch
                have HF8 := Lib.hid F8
                obtain ⟨tk, htk⟩ : ∃ tk, takesOf p[k].code[q].kind (argsOf p p[k].code[q]) = tk := ⟨_, rfl⟩
                obtain ⟨pt, hpt⟩ : ∃ pt, putsOf p[k].code[q].kind = pt := ⟨_, rfl⟩
                have hbh : behindH p p[k].code[q] o = o - tk + pt := by unfold behindH; rw [htk, hpt]
                rw [hbh] at g2 HG3
                rw [htk] at g1 t0 t4
                rw [hpt] at pu0 pu2
                rw [htk, hpt] at HEF
                clear htk hpt hbh i0 i1 k0 k1 k2 kP ch hbc F8
                go_wp2_with fail
                refine (HEF.out _).mono ?_
                rintro e w9 ⟨rfl, hB9⟩
                have HV9 := Lib.hid (below_trans HU.out hB9)
                have HF9 := Lib.hid (HF8.out.below hB9)
                have n0 := HF9.out.c0
                have n1 := HF9.out.c1
                have n2 := HF9.out.c2
                have HN := Lib.hid (rnext_any p[k] (some adc) cc q w9 HF9.out.r HC.out hqc)
                rw [nx_eq HC.out hqc] at HN
                unfold fnV at HN
                rw [HLL.out] at n2
                rw [HLL.out] at HN
                clear hB9 m0 m1 m2 j0 j1 ch8 HEF
                go_wp2_with fail
                refine HN.out.mono ?_
                rintro e w10 ⟨B, d, rfl, hl10, hB10, -⟩
                have HV10 := Lib.hid (below_trans HV9.out hB10)
                have HL10 := Lib.hid hl10
                have f10 := HF9.out.below hB10
                obtain ⟨adx, eX, x0, x1⟩ := f10.r.at_ (Below.refl _ _) hqc
                cases eX
                have y2 := f10.c2
                rw [HLL.out] at y2
                have hI10 := (HI.out.below HB7.out).below HV10.out
                obtain ⟨ax, eAx, chx⟩ := hI10.at_ (k := q) hqs
                cases eAx
                have hoq2 : hs[q] = o := by
                  have := HOQ.out
                  rw [List.getElem?_eq_getElem hqs] at this
                  exact Option.some.inj this
                rw [hoq2] at chx
                have HI10 := Lib.hid hI10
                have d1 : decide (o < tk) = false := by simp; omega
                have d2 : decide (8 < o - tk + pt) = false := by simp; omega
                have hnone : (nx p[k].code q).length = 0 → p[k].code[q].kind = 16 := fun h => next_none HC.out HPL.out HRC.out hqc (List.eq_nil_of_length_eq_zero h)
                obtain ⟨M, hM⟩ : ∃ M, (nx p[k].code q).length = M := ⟨_, rfl⟩
                have hM2 : (List.map (fun n : Nat => (n : Int)) (nx p[k].code q)).length = M := by rw [List.length_map, hM]
                rw [hM] at hnone
                have HMM := Lib.hid hM
                rw [hM2]
                clear hB10 hl10 f10 hI10 hoq2 n0 n1 n2 HN hM hM2
                by_cases hM0 : M = 0
                · subst hM0
                  have hk16 := hnone rfl
                  have d16 : (p[k].code[q].kind != 16) = false := by simpa using hk16
                  clear hk16 hnone
                  go_wp2_with fail
                  refine wp_loop_rounds 1 ?_
                  rw [rounds_succ]
                  go_wp2_with fail
                  go_roundg (L - (q + 1))
                  case measure => omega
                  case rel => exact ⟨q + 1, by omega, by go_num, below_trans HB7.out HV10.out⟩
                · have dM : ((M : Int) == 0) = false := by simpa using hM0
                  have dM' : (M == 0) = false := by simpa using hM0
                  clear hnone
                  go_wp2_with fail
                  clear chx x0 x1 y2 dM dM' d1 d2
                  have hMb : M ≤ 9223372036854775807 := by have := HL10.out.1; rw [List.length_map, HMM.out] at this; exact this
                  obtain ⟨w11, rfl⟩ : ∃ w11 : World, w11 = wr := ⟨_, rfl⟩
                  go_loopg [15] (M) (fun m i wr => ∃ j : Nat, j + m = M ∧ i = .int .i64 j ∧ Below w10.heap.size w10 wr)
                  case atStart => exact ⟨0, by omega, rfl, Below.refl _ _⟩
                  case round =>
                    obtain ⟨j, hj, rfl, hB⟩ := hrel
                    have HB12 := Lib.hid hB
                    clear hB
                    by_cases hjm : j < M
                    · have hjj : j + 1 + (M - (j + 1)) = M := by omega
                      have HJ := Lib.hid hjj
                      clear hjj
                      have hjn : j < (nx p[k].code q).length := by rw [HMM.out]; exact hjm
                      obtain ⟨t, et⟩ : ∃ t, (nx p[k].code q)[j] = t := ⟨_, rfl⟩
                      have htm : t ∈ nx p[k].code q := et ▸ List.getElem_mem hjn
                      have hts := HG3.out t htm
                      obtain ⟨htl, hte⟩ := List.getElem?_eq_some_iff.1 hts
                      have htL : t < L := by rw [← HSL.out]; exact htl
                      obtain ⟨ab, eB, cb⟩ := (HL10.out.below HB12.out).at_ (k := j) (by rw [List.length_map]; exact hjn)
                      cases eB
                      simp only [List.getElem_map] at cb
                      rw [et] at cb
                      have hr12 := HI10.out.below HB12.out
                      obtain ⟨a1', e1', c1'⟩ := hr12.at_ (k := t) htl
                      cases e1'
                      rw [hte] at c1'
                      obtain ⟨a2', e2', c2'⟩ := hr12.at_ (k := q) hqs
                      cases e2'
                      have hoq2 : hs[q] = o := by
                        have := HOQ.out
                        rw [List.getElem?_eq_getElem hqs] at this
                        exact Option.some.inj this
                      rw [hoq2] at c2'
                      have dd : (o - tk + pt != o - tk + pt) = false := by simp
                      clear et htm hts hte hr12 hoq2
                      go_upto_region 28 with fail
                      go_quiet (fail)
                      go_wp2_with fail
                      go_roundg (M - (j + 1))
                      case measure => omega
                      case rel => exact ⟨j + 1, HJ.out, by go_num, below_drew HB12.out _⟩
                    · go_wp2_with fail
                      go_roundg (L - (q + 1))
                      case measure => omega
                      case rel => exact ⟨q + 1, by omega, by go_num, below_trans (below_trans HB7.out HV10.out) HB12.out⟩
          · go_wp2_with fail
            go_roundg (p.length - (k + 1))
            case measure => omega
            case rel => exact ⟨k + 1, by omega, by go_num, below_trans B35.out HB7.out⟩
      · go_wp2_with fail
        go_ret
        exact ⟨rfl, below_trans B3.out HB.out⟩
  · have dv : (vf != 0) = true := by simpa using hv
    go_wp2_with (first | (go_at_call 16; refine (num_any _ _).mono ?_; rintro e wn ⟨rfl, rfl⟩) | (go_at_call 17; refine HP.out.mono ?_; rintro e w3 ⟨rfl, hB3⟩))
    go_ret
    exact ⟨rfl, below_trans B2.out hB3⟩
end Go.Proofs.YtdjlaglilokjeaaDoor
