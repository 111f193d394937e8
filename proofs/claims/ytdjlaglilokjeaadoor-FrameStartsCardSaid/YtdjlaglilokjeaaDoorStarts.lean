/- The law FrameStarts, walked: what begins may be, and has its args, then 0. Conditions: the program, the args lie in memory; errors.errorType is laid. -/
import Derived.Test.YtdjlaglilokjeaaDoorAwake6
namespace Go.Proofs.YtdjlaglilokjeaaDoor
open Go.RowKit

theorem beginL_num {args : List Int} {L : Nat} (h : args.all isNum = true) : (beginL args L).all isNum = true := by
  unfold beginL
  rw [List.all_append, h, Bool.true_and, List.all_eq_true]
  intro x hx
  rw [(List.mem_replicate.1 hx).2]; rfl
theorem startB_of {p : List Fn} {args : List Int} {fuel : Int} (h : startB p args fuel = true) : verifyOf p = 0 ∧ (args.length : Int) = argsAt0 p ∧ args.all isNum = true ∧ 0 ≤ fuel ∧ fuel ≤ 100000 := by
  unfold startB at h
  simp only [Bool.and_eq_true, decide_eq_true_eq] at h
  exact ⟨h.1.1.1.1, h.1.1.1.2, h.1.1.2, h.1.2, h.2⟩
/-- What a program begins with may be. -/
theorem start_may {p : List Fn} {args : List Int} {fuel : Int} (h : startB p args fuel = true) :
    ∃ L : Nat, localsAt p 0 = L ∧ args.length ≤ L ∧ L ≤ 8 ∧ 1 ≤ p.length ∧ frameB p ⟨0, 0, beginL args L, []⟩ 0 = true ∧ startS p args fuel = ⟨[⟨0, 0, beginL args L, []⟩], fuel, [], 0, 0⟩ ∧ startC p args fuel = 0 ∧ stateB p ⟨[⟨0, 0, beginL args L, []⟩], fuel, [], 0, 0⟩ = true := by
  obtain ⟨hv, ha, hn, f0, f1⟩ := startB_of h
  have hp1 := (packs_len (verifyOf_packs hv)).1
  obtain ⟨a0, a4, al, l8, hcm⟩ := fnMay_of (packs_fn (verifyOf_packs hv) (k := 0) hp1)
  obtain ⟨L, hL⟩ := Int.eq_ofNat_of_zero_le (show 0 ≤ p[0].locals by omega)
  have hea : argsAt0 p = p[0].args := by unfold argsAt0; rw [List.getElem?_eq_getElem hp1]
  have hel : localsAt p 0 = L := by unfold localsAt; rw [show (0 : Int).toNat = 0 from rfl, List.getElem?_eq_getElem hp1]; exact hL
  have hle : args.length ≤ L := by omega
  have hc1 := (codeMay_len hcm).1
  have hh : heightAt p 0 0 = 0 := by
    have hg := (heights_good hcm (verifyOf_fn hv hp1)).zero
    have := heightAt_yes (pc := 0) hv hp1 (Int.le_refl _)
    rw [show ((0 : Nat) : Int) = 0 from rfl, show (0 : Int).toNat = 0 from rfl, hg] at this
    exact this
  have hfr : frameB p ⟨0, 0, beginL args L, []⟩ 0 = true := by
    unfold frameB
    simp only [hh, hel, beginL_len hle, beginL_num hn]
    simp
  refine ⟨L, hel, hle, by omega, hp1, hfr, by unfold startS; rw [if_pos h, hel]; rfl, by unfold startC; rw [if_pos h], ?_⟩
  unfold stateB runsB runsFrom
  simp only [hv, hfr]
  simp [f0, f1]
theorem cell0 {w : World} {ad : Addr} {v : Value} (h : w.cell? (ad.add (0 * 4)) = some v) : w.cell? ad = some v := by rwa [Nat.zero_mul, add_nil] at h
set_option maxRecDepth 100000 in
set_option maxHeartbeats 8000000 in
theorem frameStarts_yes (A : Option Addr) (c : Nat) (p : List Fn) (A2 : Option Addr) (c2 : Nat) (args : List Int) (fuel : Int) (W : World) (hl : Laid W) (hr : ReadsF W A p) (_hz : Fits p) (ha : ReadsI W A2 args) :
    Calls Tryd.prog 8 #[.agg #[.slice A p.length c], .slice A2 args.length c2, .int .i64 fuel] W (Ret (.bool true) W) := by
  have hna := ha.1
  have hnp := hr.1
  have HL := Lib.hid hl
  have RP := Lib.hid hr
  have RA := Lib.hid ha
  have B := Lib.hid (Below.refl W.heap.size W)
  clear hl hr ha
  have hb : Below W.heap.size W (W.alloc (.cells #[.slice A p.length c] 24)) := allocsL_below [.cells #[.slice A p.length c] 24] W
  replace HL := Lib.hid (HL.out.below hb)
  replace RP := Lib.hid (RP.out.below hb)
  replace RA := Lib.hid (RA.out.below hb)
  replace B := Lib.hid (below_trans B.out hb)
  have P := Lib.hid (show RowAt 24 (W.heap.size) [.slice A p.length c] (W.alloc (.cells #[.slice A p.length c] 24)) from rowL (w := W) (os := [.cells #[.slice A p.length c] 24]) (i := 0) (cs := [.slice A p.length c]) (by simp) rfl)
  clear hb
  have H := Lib.hid (awake6_any (W.alloc (.cells #[.slice A p.length c] 24)) HL.out)
  go_enter Tryd.func8, Tryd.ntmps8
  go_wp2_with fail
  (with_reducible refine H.out.mono ?_)
  rintro e w2 ⟨rfl, hB⟩
  clear H
  replace HL := Lib.hid (HL.out.below hB)
  replace RP := Lib.hid (RP.out.below hB)
  replace RA := Lib.hid (RA.out.below hB)
  replace B := Lib.hid (below_trans B.out hB)
  replace P := Lib.hid (P.out.below hB)
  clear hB
  have H := Lib.hid (start_any p A A2 c c2 args fuel w2 HL.out RP.out RA.out)
  have c0 := P.out.cell (k := 0) (by simp)
  simp only [List.getElem_cons_zero] at c0
  go_wp2_with fail
  (with_reducible refine H.out.mono ?_)
  rintro e w3 ⟨fv, ov, vss, rfl, hos, hB⟩
  clear H c0
  replace HL := Lib.hid (HL.out.below hB)
  replace RP := Lib.hid (RP.out.below hB)
  replace RA := Lib.hid (RA.out.below hB)
  replace B := Lib.hid (below_trans B.out hB)
  replace P := Lib.hid (P.out.below hB)
  clear hB
  cases hgo : startB p args fuel with
  | false =>
    obtain ⟨e1, e2⟩ := startB_no hgo
    rw [e1] at hos
    obtain ⟨A3, d3, Ao3, do3, rfl, rfl, -, -⟩ := hos.reads
    rw [e1, e2, show sttV zeroS (.slice A3 zeroS.frames.length d3) (.slice Ao3 zeroS.out.length do3) = .agg #[.slice A3 0 d3, .int .i64 0, .slice Ao3 0 do3, .int .i64 0, .int .i64 0] from rfl]
    clear hos hgo e1 e2
    have hb : Below w3.heap.size w3 (w3.alloc (.cells #[.slice A3 0 d3, .int .i64 0, .slice Ao3 0 do3, .int .i64 0, .int .i64 0] 56)) := allocsL_below [.cells #[.slice A3 0 d3, .int .i64 0, .slice Ao3 0 do3, .int .i64 0, .int .i64 0] 56] w3
    replace HL := Lib.hid (HL.out.below hb)
    replace RP := Lib.hid (RP.out.below hb)
    replace RA := Lib.hid (RA.out.below hb)
    replace B := Lib.hid (below_trans B.out hb)
    replace P := Lib.hid (P.out.below hb)
    have S := Lib.hid (show RowAt 56 (w3.heap.size) [.slice A3 0 d3, .int .i64 0, .slice Ao3 0 do3, .int .i64 0, .int .i64 0] (w3.alloc (.cells #[.slice A3 0 d3, .int .i64 0, .slice Ao3 0 do3, .int .i64 0, .int .i64 0] 56)) from rowL (w := w3) (os := [.cells #[.slice A3 0 d3, .int .i64 0, .slice Ao3 0 do3, .int .i64 0, .int .i64 0] 56]) (i := 0) (cs := [.slice A3 0 d3, .int .i64 0, .slice Ao3 0 do3, .int .i64 0, .int .i64 0]) (by simp) rfl)
    clear hb
    have c1 := S.out.cell (k := 0) (by simp)
    simp only [List.getElem_cons_zero] at c1
    go_wp2_with (go_at_call 16; refine (numL_any _ _).mono ?_; rintro e wn ⟨rfl, rfl⟩)
    go_ret
    exact ⟨rfl, B.out⟩
  | true =>
    obtain ⟨L, hL, hle, h8, hp1, hfr, e1, e2, hst⟩ := start_may hgo
    rw [e1] at hos
    obtain ⟨A3, d3, Ao3, do3, rfl, rfl, hd3, hrs⟩ := hos.reads
    rw [e1, e2, show sttV ⟨[⟨0, 0, beginL args L, []⟩], fuel, [], 0, 0⟩ (.slice A3 [(⟨0, 0, beginL args L, []⟩ : Frm)].length d3) (.slice Ao3 ([] : List Int).length do3) = .agg #[.slice A3 1 d3, .int .i64 fuel, .slice Ao3 0 do3, .int .i64 0, .int .i64 0] from rfl]
    have RS := Lib.hid hrs
    have HD := Lib.hid hd3
    have HST := Lib.hid hst
    have HFR := Lib.hid hfr
    have HGO := Lib.hid hgo
    have HLL := Lib.hid hL
    clear hos hgo e1 e2 hrs hd3 hst hfr hL
    have hb : Below w3.heap.size w3 (w3.alloc (.cells #[.slice A3 1 d3, .int .i64 fuel, .slice Ao3 0 do3, .int .i64 0, .int .i64 0] 56)) := allocsL_below [.cells #[.slice A3 1 d3, .int .i64 fuel, .slice Ao3 0 do3, .int .i64 0, .int .i64 0] 56] w3
    replace HL := Lib.hid (HL.out.below hb)
    replace RP := Lib.hid (RP.out.below hb)
    replace RA := Lib.hid (RA.out.below hb)
    replace B := Lib.hid (below_trans B.out hb)
    replace P := Lib.hid (P.out.below hb)
    replace RS := Lib.hid (RS.out.below hb)
    have S := Lib.hid (show RowAt 56 (w3.heap.size) [.slice A3 1 d3, .int .i64 fuel, .slice Ao3 0 do3, .int .i64 0, .int .i64 0] (w3.alloc (.cells #[.slice A3 1 d3, .int .i64 fuel, .slice Ao3 0 do3, .int .i64 0, .int .i64 0] 56)) from rowL (w := w3) (os := [.cells #[.slice A3 1 d3, .int .i64 fuel, .slice Ao3 0 do3, .int .i64 0, .int .i64 0] 56]) (i := 0) (cs := [.slice A3 1 d3, .int .i64 fuel, .slice Ao3 0 do3, .int .i64 0, .int .i64 0]) (by simp) rfl)
    clear hb
    have H := Lib.hid (state_any p A A3 Ao3 c d3 do3 ⟨[⟨0, 0, beginL args L, []⟩], fuel, [], 0, 0⟩ (w3.alloc (.cells #[.slice A3 1 d3, .int .i64 fuel, .slice Ao3 0 do3, .int .i64 0, .int .i64 0] 56)) HL.out RP.out RS.out.fr HD.out RS.out.out)
    rw [HST.out] at H
    unfold sttV at H
    simp only [len1, len0] at H
    have c2 := S.out.cell (k := 0) (by simp)
    simp only [List.getElem_cons_zero] at c2
    have c3 := S.out.cell (k := 1) (by simp)
    simp only [List.getElem_cons_zero, List.getElem_cons_succ] at c3
    have c4 := S.out.cell (k := 2) (by simp)
    simp only [List.getElem_cons_zero, List.getElem_cons_succ] at c4
    have c5 := S.out.cell (k := 3) (by simp)
    simp only [List.getElem_cons_zero, List.getElem_cons_succ] at c5
    have c6 := S.out.cell (k := 4) (by simp)
    simp only [List.getElem_cons_zero, List.getElem_cons_succ] at c6
    have c7 := P.out.cell (k := 0) (by simp)
    simp only [List.getElem_cons_zero] at c7
    go_wp2_with (first | (go_at_call 16; refine (numL_any _ _).mono ?_; rintro e wn ⟨rfl, rfl⟩) | fail)
    (with_reducible refine H.out.mono ?_)
    rintro e w5 ⟨rfl, hB⟩
    clear H c2 c3 c4 c5 c6 c7
    replace HL := Lib.hid (HL.out.below hB)
    replace RP := Lib.hid (RP.out.below hB)
    replace RA := Lib.hid (RA.out.below hB)
    replace B := Lib.hid (below_trans B.out hB)
    replace P := Lib.hid (P.out.below hB)
    replace RS := Lib.hid (RS.out.below hB)
    replace S := Lib.hid (S.out.below hB)
    clear hB
    obtain ⟨ad, e, hf⟩ := RS.out.fr.at_ (Below.refl _ _) (k := 0) (by simp)
    subst e
    obtain ⟨g0, g1, ⟨A4, d4, g2, r4⟩, A5, d5, g3, r5⟩ := hf
    replace g0 := cell0 g0
    simp only [List.getElem_cons_zero, len0, Nat.zero_mul, add_nil] at g0 g1 g2 g3 r4 r5
    rw [beginL_len hle] at g2
    have R4 := Lib.hid r4
    have R5 := Lib.hid r5
    clear r4 r5
    have c8 := S.out.cell (k := 0) (by simp)
    simp only [List.getElem_cons_zero] at c8
    have c9 := S.out.cell (k := 1) (by simp)
    simp only [List.getElem_cons_zero, List.getElem_cons_succ] at c9
    have c10 := S.out.cell (k := 2) (by simp)
    simp only [List.getElem_cons_zero, List.getElem_cons_succ] at c10
    have c11 := S.out.cell (k := 3) (by simp)
    simp only [List.getElem_cons_zero, List.getElem_cons_succ] at c11
    have c12 := S.out.cell (k := 4) (by simp)
    simp only [List.getElem_cons_zero, List.getElem_cons_succ] at c12
    have c13 := P.out.cell (k := 0) (by simp)
    simp only [List.getElem_cons_zero] at c13
    go_wp2_with fail
    clear c8 c9 c10 c11 c12 c13 g0 g1 g2 g3
    have hb : Below w5.heap.size w5 (w5.alloc (.cells #[.int .i64 0, .int .i64 0, .slice A4 L d4, .slice A5 0 d5] 61)) := allocsL_below [.cells #[.int .i64 0, .int .i64 0, .slice A4 L d4, .slice A5 0 d5] 61] w5
    replace HL := Lib.hid (HL.out.below hb)
    replace RP := Lib.hid (RP.out.below hb)
    replace RA := Lib.hid (RA.out.below hb)
    replace B := Lib.hid (below_trans B.out hb)
    replace P := Lib.hid (P.out.below hb)
    replace RS := Lib.hid (RS.out.below hb)
    replace S := Lib.hid (S.out.below hb)
    replace R4 := Lib.hid (R4.out.below hb)
    replace R5 := Lib.hid (R5.out.below hb)
    have F := Lib.hid (show RowAt 61 (w5.heap.size) [.int .i64 0, .int .i64 0, .slice A4 L d4, .slice A5 0 d5] (w5.alloc (.cells #[.int .i64 0, .int .i64 0, .slice A4 L d4, .slice A5 0 d5] 61)) from rowL (w := w5) (os := [.cells #[.int .i64 0, .int .i64 0, .slice A4 L d4, .slice A5 0 d5] 61]) (i := 0) (cs := [.int .i64 0, .int .i64 0, .slice A4 L d4, .slice A5 0 d5]) (by simp) rfl)
    clear hb
    generalize hw6 : (w5.alloc (.cells #[.int .i64 0, .int .i64 0, .slice A4 L d4, .slice A5 0 d5] 61)) = w6 at *
    clear hw6
    obtain ⟨adp, eA, Ac, cc, hF⟩ := fnAt_of RP.out (Below.refl _ _) hp1
    subst eA
    have q1 := hF.c1
    simp only [Nat.zero_mul, add_nil] at q1
    rw [show p[0].locals = L by have := HLL.out; unfold localsAt at this; rwa [show (0 : Int).toNat = 0 from rfl, List.getElem?_eq_getElem hp1] at this] at q1
    have HALL := Lib.hid (show ∀ W', Below w6.heap.size w6 W' → W'.cell? ⟨w5.heap.size, 0, none⟩ = some (.int .i64 0) ∧ W'.cell? ⟨w5.heap.size, 1, none⟩ = some (.int .i64 0) ∧ W'.cell? ⟨w5.heap.size, 2, none⟩ = some (.slice A4 L d4) ∧ W'.cell? ⟨w5.heap.size, 3, none⟩ = some (.slice A5 0 d5) ∧
        W'.cell? ⟨W.heap.size, 0, none⟩ = some (.slice (some adp) p.length c) ∧ W'.cell? ⟨adp.block, adp.off + 1, none⟩ = some (.int .i64 L) ∧ Below w6.heap.size w6 W' from fun W' hb =>
      ⟨(F.out.below hb).cell (k := 0) (by simp), (F.out.below hb).cell (k := 1) (by simp), (F.out.below hb).cell (k := 2) (by simp), (F.out.below hb).cell (k := 3) (by simp), (P.out.below hb).cell (k := 0) (by simp), cell_below hb q1, hb⟩)
    have HM := Lib.hid (show ∀ (W' : World), Below w6.heap.size w6 W' → Calls Tryd.prog 28 #[.agg #[.slice (some adp) p.length c], .agg #[.int .i64 0, .int .i64 0, .slice A4 L d4, .slice A5 0 d5]] W' (Ret (.bool true) W') from fun W' hb => by
      have q := mayF_any p (some adp) A4 A5 c d4 d5 ⟨0, 0, beginL args L, []⟩ W' (HL.out.below hb) (RP.out.below hb) (R4.out.below hb) (R5.out.below hb)
      unfold frV frameMayB at q
      rw [HFR.out, (startB_of HGO.out).1] at q
      simp only [beginL_len hle, len0] at q
      exact q)
    have dd : decide (L < args.length) = false := by simpa using hle
    have hpi : (0 : Int) < p.length := by omega
    have hpj : 0 < p.length := hp1
    clear hF q1
    go_region_held3 (fun W' => W'.cell? ⟨w5.heap.size, 0, none⟩ = some (.int .i64 0) ∧ W'.cell? ⟨w5.heap.size, 1, none⟩ = some (.int .i64 0) ∧ W'.cell? ⟨w5.heap.size, 2, none⟩ = some (.slice A4 L d4) ∧ W'.cell? ⟨w5.heap.size, 3, none⟩ = some (.slice A5 0 d5) ∧
        W'.cell? ⟨W.heap.size, 0, none⟩ = some (.slice (some adp) p.length c) ∧ W'.cell? ⟨adp.block, adp.off + 1, none⟩ = some (.int .i64 L) ∧ Below w6.heap.size w6 W')
      (exact HALL.out _ (by repeat (first | assumption | exact Below.refl _ _ | refine below_drw ?_ | refine below_drew ?_ _ | refine below_alloc ?_ _)))
      (first | (go_at_call 28; (with_reducible refine (HM.out _ ?_).mono ?_); (· exact (by repeat (first | assumption | exact Below.refl _ _ | refine below_drw ?_ | refine below_drew ?_ _ | refine below_alloc ?_ _))); rintro e w7 ⟨rfl, hb⟩; have HW := below_trans (show Below w6.heap.size w6 _ from (by repeat (first | assumption | exact Below.refl _ _ | refine below_drw ?_ | refine below_drew ?_ _ | refine below_alloc ?_ _))) hb; clear hb))
    
    have HWW := Lib.hid HW
    clear HW
    have F7 := Lib.hid (F.out.below HWW.out)
    have k7 := F7.out.cell (k := 2) (by simp)
    simp only [List.getElem_cons_zero, List.getElem_cons_succ] at k7
    go_wp2_with fail
    clear k7 dd
    go_loopw [10] (fun i wr => ∃ k : Nat, k ≤ L ∧ i = .int .i64 k ∧ Below w7.heap.size w7 wr) (fun i _ => L - (intOf i).toNat)
    case atStart => exact ⟨0, Nat.zero_le _, rfl, Below.refl _ _⟩
    case round =>
      obtain ⟨k, hk, rfl, hb⟩ := hrel
      have HB := Lib.hid hb
      have b6 := below_trans HWW.out hb
      have k7 := (F7.out.below hb).cell (k := 2) (by simp)
      simp only [List.getElem_cons_zero, List.getElem_cons_succ] at k7
      by_cases hlt : k < L
      case neg =>
        clear hb b6
        go_wp2_with fail
        go_ret
        exact ⟨rfl, below_trans (below_trans B.out HWW.out) HB.out⟩
      obtain ⟨a4, eA, ca⟩ := (R4.out.below b6).at_ (k := k) (by rw [beginL_len hle]; exact hlt)
      subst eA
      by_cases h2 : k < args.length
      · have e1 : (beginL args L)[k]'(by rw [beginL_len hle]; exact hlt) = args[k] := by unfold beginL; rw [List.getElem_append_left h2]
        obtain ⟨a2, eA, cb⟩ := (RA.out.below b6).at_ h2
        subst eA
        rw [e1] at ca
        have d1 : decide (k < args.length) = true := by simpa using h2
        have d2 : (args[k] != args[k]) = false := by simp
        have d3 : decide (args.length ≤ k) = false := by simpa using h2
        clear e1 hb b6
        go_wp2_with fail
        go_quiet (fail)
        go_wp2_with fail
        go_roundw
        case rel => exact ⟨k + 1, by omega, by go_num, below_drew HB.out _⟩
        case measure => simp only [intOf]; omega
      · have e1 : (beginL args L)[k]'(by rw [beginL_len hle]; exact hlt) = 0 := by unfold beginL; rw [List.getElem_append_right (by omega)]; simp
        rw [e1] at ca
        have d1 : decide (k < args.length) = false := by simpa using h2
        have d3 : decide (args.length ≤ k) = true := by simpa using h2
        clear e1 hb b6
        go_wp2_with fail
        go_quiet (fail)
        go_wp2_with fail
        go_roundw
        case rel => exact ⟨k + 1, by omega, by go_num, below_drew HB.out _⟩
        case measure => simp only [intOf]; omega
end Go.Proofs.YtdjlaglilokjeaaDoor
