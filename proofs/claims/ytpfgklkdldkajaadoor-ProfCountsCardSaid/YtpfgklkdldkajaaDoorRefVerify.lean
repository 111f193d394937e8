/- The document's 'Heights' answers the same heights. Conditions: the program lies in memory as it is said. -/
import Derived.Test.YtpfgklkdldkajaaDoorVerify
import Derived.StillTailTactics
namespace Go.Proofs.YtpfgklkdldkajaaDoor
open Go.RowKit

set_option maxRecDepth 100000 in
set_option maxHeartbeats 4000000 in
theorem rheights_any (p : List Fn) (Ap : Option Addr) (cp : Nat) (fn : Int) (w : World) (hr : ReadsF w Ap p) :
    Calls Tryd.prog 17 #[.agg #[.slice Ap p.length cp], .int .i64 fn] w (HeightsE (heightsOf p fn) w) := by
  have b1 : Below w.heap.size w (w.alloc (.cells #[.slice Ap p.length cp] 24)) := below_alloc (Below.refl _ _) _
  have hP1 : (w.alloc (.cells #[.slice Ap p.length cp] 24)).cell? ⟨w.heap.size, 0, none⟩ = some (.slice Ap p.length cp) := (blk_cell (blk_new w _) 0).trans rfl
  have HM := Lib.hid (rpacks_any p Ap cp _ (hr.below b1))
  have hn : p.length ≤ 9223372036854775807 := hr.1
  have HRF := Lib.hid hr
  have HB1 := Lib.hid b1
  have HP := Lib.hid hP1
  clear hr b1 hP1
  by_cases hok : packs p = true ∧ 0 ≤ fn ∧ fn < p.length
  · obtain ⟨hp, h0, hlt⟩ := hok
    obtain ⟨k, rfl⟩ := Int.eq_ofNat_of_zero_le h0
    have hk : k < p.length := by simpa using hlt
    have he := heightsOf_yes hp hk
    have d1 : decide ((k : Int) < 0) = false := by simp
    have d2 : decide (p.length ≤ k) = false := by simpa using hk
    have hm := (fnMay_of (packs_fn hp hk)).2.2.2.2
    obtain ⟨h1, h64⟩ := codeMay_len hm
    have hlr := reachL_len hm
    have HPK := Lib.hid hp
    have HE := Lib.hid he
    have HC := Lib.hid hm
    have HLR := Lib.hid hlr
    rw [hp] at HM
    clear he hp hm h0 hlt hlr
    go_enter Tryd.func17, Tryd.ntmps17
    go_wp2_with fail
    refine HM.out.mono ?_
    rintro e w2 ⟨rfl, hB⟩
    have B2 := Lib.hid (below_trans HB1.out hB)
    obtain ⟨ad, eA, Ac, cc, hF⟩ := fnAt_of HRF.out B2.out hk
    subst eA
    have c0 := (hB.cell (World.block_lt_of_cell? _ _ HP.out)).trans HP.out
    have k0 := hF.c0
    have k1 := hF.c1
    have k2 := hF.c2
    have b3 : Below w2.heap.size w2 (w2.alloc (.cells #[.int .i64 p[k].args, .int .i64 p[k].locals, .slice Ac p[k].code.length cc] 31)) := below_alloc (Below.refl _ _) _
    have hF3 := fnAt_new p[k] Ac cc w2 hF.r
    have HRE := Lib.hid (rreached_any p[k] Ac cc _ hF3.r HC.out)
    have HP2 := Lib.hid ((b3.cell (World.block_lt_of_cell? _ _ c0)).trans c0)
    have HF3 := Lib.hid hF3
    have B3 := Lib.hid (below_trans B2.out b3)
    unfold fnV at HRE
    clear hB hF hF3 b3 HM
    go_wp2_with fail
    refine HRE.out.mono ?_
    rintro e w3 ⟨g, rfl, hg, hlo, hB3⟩
    rw [← reachL_eq HC.out] at hg
    have hz : (reachB p[k].code).length = p[k].code.length := by rw [← reachL_eq HC.out]; exact reachL_len HC.out
    rw [hz]
    have B4 := Lib.hid (below_trans B3.out hB3)
    have HP4 := Lib.hid ((hB3.cell (World.block_lt_of_cell? _ _ HP2.out)).trans HP2.out)
    have HF4 := Lib.hid (HF3.out.below hB3)
    have HG := Lib.hid hg
    clear hg hlo hB3 hz k0 k1 k2 c0 HRE
    go_wp2_with fail
    go_loopg [10] (p[k].code.length) (fun m i wr => ∃ j : Nat, j + m = p[k].code.length ∧ i = .int .i64 j ∧ (∀ x, x < j → badAt p p[k] x = false) ∧ Below w3.heap.size w3 wr)
    case atStart => exact ⟨0, by omega, rfl, fun _ h => absurd h (Nat.not_lt_zero _), Below.refl _ _⟩
    case round =>
      obtain ⟨j, hj, rfl, hv, hB⟩ := hrel
      have HV := Lib.hid hv
      have HB := Lib.hid hB
      clear hv hB
      by_cases hlt : j < p[k].code.length
      · have hF5 := HF4.out.below HB.out
        obtain ⟨adc, rfl, i0, i1⟩ := hF5.r.at_ (Below.refl _ _) hlt
        have q0 := hF5.c0
        have q1 := hF5.c1
        have q2 := hF5.c2
        have qP := (HB.out.cell (World.block_lt_of_cell? _ _ HP4.out)).trans HP4.out
        have hlr : j < (reachL p[k].code).length := by rw [HLR.out]; exact hlt
        have cm := bools_cell (HG.out.below HB.out) hlr
        have HF5 := Lib.hid hF5
        clear hF5
        cases hb : (reachL p[k].code)[j] with
        | false =>
          rw [hb] at cm
          have hbad : badAt p p[k] j = false := by unfold badAt; rw [List.getElem?_eq_getElem hlr, hb]; rfl
          have HX := Lib.hid hbad
          clear hbad hb hlr
          go_upto_region 8 with fail
          go_quiet (fail)
          go_wp2_with fail
          go_roundg (p[k].code.length - (j + 1))
          case measure => omega
          case rel => exact ⟨j + 1, by omega, by go_num, fun x hx => by
            rcases Nat.lt_or_ge x j with h2 | h2
            · exact HV.out x h2
            · obtain rfl : x = j := by omega
              exact HX.out, below_drew HB.out _⟩
        | true =>
          rw [hb] at cm
          have hbad : badAt p p[k] j = !rangedB p p[k] p[k].code[j] := by unfold badAt; rw [List.getElem?_eq_getElem hlr, hb, List.getElem?_eq_getElem hlt]; rfl
          have HRG := Lib.hid (ranged_any p (some ad) cp p[k] (some adc) cc p[k].code[j])
          unfold fnV Ins.v at HRG
          have HX := Lib.hid hbad
          clear hbad hb hlr
          cases hr : rangedB p p[k] p[k].code[j] with
          | true =>
            rw [hr] at HX HRG
            clear hr
            go_upto_region 8 with fail
            go_still_tail 12, (by kernel_rfl)
            go_wp2_with fail
            refine (HRG.out _).mono ?_
            rintro e wa ⟨rfl, ba⟩
            have TB2 := Lib.hid (below_trans (Below.refl wr.heap.size wr).drew ba)
            clear ba
            go_wp2_with fail
            go_roundg (p[k].code.length - (j + 1))
            case measure => omega
            case rel => exact ⟨j + 1, by omega, by go_num, fun x hx => by
              rcases Nat.lt_or_ge x j with h2 | h2
              · exact HV.out x h2
              · obtain rfl : x = j := by omega
                exact HX.out, below_trans HB.out TB2.out⟩
          | false =>
            rw [hr] at HX HRG
            clear hr
            go_upto_region 8 with fail
            go_still_tail 12, (by kernel_rfl)
            go_wp2_with fail
            refine (HRG.out _).mono ?_
            rintro e wa ⟨rfl, ba⟩
            have TB2 := Lib.hid (below_trans (Below.refl wr.heap.size wr).drew ba)
            clear ba
            go_wp2_with fail
            go_ret3
            have hp : plainOf p p[k] = some ((j : Int), 501) := by unfold plainOf; rw [find_range hlt HX.out HV.out]
            rw [HE.out, heightsF_range hp]
            exact ⟨_, rfl, ORow.nil _ _ _ _, below_trans B4.out (below_trans HB.out TB2.out)⟩
      · obtain rfl : j = p[k].code.length := by omega
        have hnone : (List.range p[k].code.length).find? (badAt p p[k]) = none := find_none HV.out
        obtain ⟨n, hnn⟩ : ∃ n, p[k].code.length = n + 1 := ⟨p[k].code.length - 1, by omega⟩
        have hln : n < p[k].code.length := by omega
        have hF5 := HF4.out.below HB.out
        obtain ⟨adc, rfl, i0, i1⟩ := hF5.r.at_ (Below.refl _ _) hln
        have q0 := hF5.c0
        have q1 := hF5.c1
        have q2 := hF5.c2
        have qP := (HB.out.cell (World.block_lt_of_cell? _ _ HP4.out)).trans HP4.out
        have hlr : n < (reachL p[k].code).length := by rw [HLR.out]; exact hln
        have cm := bools_cell (HG.out.below HB.out) hlr
        have hend : endBad p[k] = ((reachL p[k].code)[n] && (decide (p[k].code[n].kind ≠ 12) && decide (p[k].code[n].kind ≠ 16))) := by
          unfold endBad
          rw [show p[k].code.length - 1 = n by omega, List.getElem?_eq_getElem hlr, List.getElem?_eq_getElem hln]
          cases (reachL p[k].code)[n] <;> simp
        have hsub : (p[k].code.length : Int) - 1 = n := by omega
        have hpl : plainOf p p[k] = if endBad p[k] then some ((p[k].code.length : Int) - 1, 503) else none := by unfold plainOf; rw [hnone]
        rw [hend, hsub] at hpl
        have HPL := Lib.hid hpl
        have HF5 := Lib.hid hF5
        have hw : IntKind.i64.wrap ((p[k].code.length : Int) - 1) = n := by rw [hsub]; exact IntWalk.i64_in _ (by omega)
        have hnl : n + 1 ≤ p[k].code.length := by omega
        clear hnone hend hpl hF5 hsub hnn
        generalize (reachL p[k].code)[n] = b at cm HPL
        generalize p[k].code[n].kind = kd at i0 HPL
        by_cases hbad : b = true ∧ kd ≠ 12 ∧ kd ≠ 16
        · obtain ⟨rfl, e12, e16⟩ := hbad
          have d12 : (kd != 12) = true := by simpa using e12
          have d16 : (kd != 16) = true := by simpa using e16
          go_wp2_with fail
          go_ret3
          have hp : plainOf p p[k] = some ((n : Int), 503) := by rw [HPL.out, if_pos (by simp [e12, e16])]
          rw [HE.out, heightsF_range hp]
          exact ⟨_, rfl, ORow.nil _ _ _ _, below_trans B4.out HB.out⟩
        · have hp : plainOf p p[k] = none := by rw [HPL.out, if_neg (by simp; intro a1 a2; exact Classical.byContradiction fun a3 => hbad ⟨a1, a2, a3⟩)]
          have HW := Lib.hid (rwalk_any p (some ad) cp p[k] (some adc) cc wr (HRF.out.below (below_trans B4.out HB.out)) HF5.out.r HPK.out HC.out hp)
          have hrr := HE.out.trans (heightsF_walk hp)
          clear hp
          unfold fnV at HW
          obtain ⟨r, hr⟩ : ∃ r, walkR (hwalkOf p p[k].code) = r := ⟨_, rfl⟩
          rw [hr] at HW hrr
          have HRR := Lib.hid hrr
          clear hr hrr
          have done_ : ∀ e w', HeightsE r wr e w' → HeightsE (heightsOf p k) w e w' := fun e w' ⟨v, h1, h2, h3⟩ => by
            rw [HRR.out]
            exact ⟨v, h1, h2.mono (Nat.le_trans B4.out.size HB.out.size), below_trans (below_trans B4.out HB.out) h3⟩
          have HD := Lib.hid done_
          clear done_
          cases b with
          | false =>
            go_wp2_with fail
            refine HW.out.mono ?_
            rintro e w5 hE
            have hE2 := HD.out _ _ hE
            obtain ⟨v, rfl, _, _⟩ := hE
            have HE2 := Lib.hid hE2
            clear hE2
            go_wp2_with fail
            go_ret3
            exact HE2.out
          | true =>
            by_cases e12 : kd = 12
            · subst e12
              go_wp2_with fail
              refine HW.out.mono ?_
              rintro e w5 hE
              have hE2 := HD.out _ _ hE
              obtain ⟨v, rfl, _, _⟩ := hE
              have HE2 := Lib.hid hE2
              clear hE2
              go_wp2_with fail
              go_ret3
              exact HE2.out
            · have d12 : (kd != 12) = true := by simpa using e12
              have e16 : kd = 16 := by
                rcases Decidable.em (kd = 16) with h | h
                · exact h
                · exact absurd ⟨rfl, e12, h⟩ hbad
              subst e16
              go_wp2_with fail
              refine HW.out.mono ?_
              rintro e w5 hE
              have hE2 := HD.out _ _ hE
              obtain ⟨v, rfl, _, _⟩ := hE
              have HE2 := Lib.hid hE2
              clear hE2
              go_wp2_with fail
              go_ret3
              exact HE2.out
  · have he := heightsOf_no hok
    have HE := Lib.hid he
    clear he
    cases hp : packs p with
    | false =>
      rw [hp] at HM
      clear hp
      go_enter Tryd.func17, Tryd.ntmps17
      go_wp2_with fail
      refine HM.out.mono ?_
      rintro e w2 ⟨rfl, hB⟩
      have B2 := Lib.hid (below_trans HB1.out hB)
      clear hB
      go_wp2_with fail
      go_ret3
      rw [HE.out]
      exact ⟨_, rfl, ORow.nil _ _ _ _, B2.out⟩
    | true =>
      rw [hp] at HM
      by_cases h0 : fn < 0
      · have d1 : decide (fn < 0) = true := by simpa using h0
        clear hp
        go_enter Tryd.func17, Tryd.ntmps17
        go_wp2_with fail
        refine HM.out.mono ?_
        rintro e w2 ⟨rfl, hB⟩
        have B2 := Lib.hid (below_trans HB1.out hB)
        clear hB
        go_wp2_with fail
        go_ret3
        rw [HE.out]
        exact ⟨_, rfl, ORow.nil _ _ _ _, B2.out⟩
      · have d1 : decide (fn < 0) = false := by simpa using h0
        have d2 : decide ((p.length : Int) ≤ fn) = true := by
          have : ¬ fn < p.length := fun h3 => hok ⟨hp, by omega, h3⟩
          simp; omega
        clear hp
        go_enter Tryd.func17, Tryd.ntmps17
        go_wp2_with fail
        refine HM.out.mono ?_
        rintro e w2 ⟨rfl, hB⟩
        have B2 := Lib.hid (below_trans HB1.out hB)
        have c2 := (hB.cell (World.block_lt_of_cell? _ _ HP.out)).trans HP.out
        clear hB
        go_wp2_with fail
        go_ret3
        rw [HE.out]
        exact ⟨_, rfl, ORow.nil _ _ _ _, B2.out⟩
end Go.Proofs.YtpfgklkdldkajaaDoor
