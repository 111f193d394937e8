/- The law Steps, walked. Conditions: the program, the state lie in memory; errors.errorType is laid. -/
import Derived.Test.YtpfgklkdldkajaaGreatDoorRStep
import Derived.Test.YtpfgklkdldkajaaGreatDoorLAw7
import Derived.Test.YtpfgklkdldkajaaGreatDoorGZ20
import Derived.Test.YtpfgklkdldkajaaGreatDoorGZ28
namespace Go.Proofs.YtpfgklkdldkajaaGreatDoor
open Go.RowKit

/-- The cells of a struct's value. -/
def aggC : Value → List Value
  | .agg xs => xs.toList
  | _ => []
def IsProg (p : List Fn) (v : Value) (w : World) : Prop := ∃ ao co base, v = .agg #[.slice ao p.length co] ∧ OwnF w base (.slice ao p.length co) p
def IsState (s : Stt) (v : Value) (w : World) : Prop := ∃ A c Ao co vss base, v = .agg #[.slice A s.frames.length c, .int .i64 s.fuel, .slice Ao s.out.length co, .int .i64 s.done, .int .i64 s.value] ∧ s.frames.length ≤ c ∧ OwnS w base s (.slice A s.frames.length c) (.slice Ao s.out.length co) vss
theorem five {t b : Nat} {v0 v1 v2 v3 v4 : Value} {w : World} (h : RowAt t b [v0, v1, v2, v3, v4] w) : w.cell? ⟨b, 0, none⟩ = some v0 ∧ w.cell? ⟨b, 1, none⟩ = some v1 ∧ w.cell? ⟨b, 2, none⟩ = some v2 ∧ w.cell? ⟨b, 3, none⟩ = some v3 ∧ w.cell? ⟨b, 4, none⟩ = some v4 :=
  ⟨h.cell (k := 0) (by simp), h.cell (k := 1) (by simp), h.cell (k := 2) (by simp), h.cell (k := 3) (by simp), h.cell (k := 4) (by simp)⟩
set_option maxRecDepth 100000 in
set_option maxHeartbeats 8000000 in
theorem steps_yes (A : Option Addr) (c : Nat) (p : List Fn) (C : Option Addr) (k : Nat) (Co : Option Addr) (ko : Nat) (s : Stt) (W : World) (hl : Laid W) (hr : ReadsF W A p) (hz : Fits p) (hs : ReadsS W s C Co ∧ s.frames.length ≤ k) (hzs : FitS s) :
    Calls Tryz.prog 4 #[.agg #[.slice A p.length c], .agg #[.slice C s.frames.length k, .int .i64 s.fuel, .slice Co s.out.length ko, .int .i64 s.done, .int .i64 s.value]] W (Ret (.bool true) W) := by
  have HL := Lib.hid hl
  have RP := Lib.hid hr
  have RS := Lib.hid hs.1
  have HZ := Lib.hid hz
  have HZS := Lib.hid hzs
  clear hl hr hs hz hzs
  have hb : Below W.heap.size W ((W.alloc (.cells #[.slice A p.length c] 24)).alloc (.cells #[.slice C s.frames.length k, .int .i64 s.fuel, .slice Co s.out.length ko, .int .i64 s.done, .int .i64 s.value] 47)) := allocsL_below [.cells #[.slice A p.length c] 24, .cells #[.slice C s.frames.length k, .int .i64 s.fuel, .slice Co s.out.length ko, .int .i64 s.done, .int .i64 s.value] 47] W
  have PP := Lib.hid (show RowAt 24 W.heap.size [.slice A p.length c] ((W.alloc (.cells #[.slice A p.length c] 24)).alloc (.cells #[.slice C s.frames.length k, .int .i64 s.fuel, .slice Co s.out.length ko, .int .i64 s.done, .int .i64 s.value] 47)) from rowL (w := W) (os := [.cells #[.slice A p.length c] 24, .cells #[.slice C s.frames.length k, .int .i64 s.fuel, .slice Co s.out.length ko, .int .i64 s.done, .int .i64 s.value] 47]) (i := 0) (by simp) rfl)
  have PS := Lib.hid (show RowAt 47 (W.heap.size + 1) [.slice C s.frames.length k, .int .i64 s.fuel, .slice Co s.out.length ko, .int .i64 s.done, .int .i64 s.value] ((W.alloc (.cells #[.slice A p.length c] 24)).alloc (.cells #[.slice C s.frames.length k, .int .i64 s.fuel, .slice Co s.out.length ko, .int .i64 s.done, .int .i64 s.value] 47)) from rowL (w := W) (os := [.cells #[.slice A p.length c] 24, .cells #[.slice C s.frames.length k, .int .i64 s.fuel, .slice Co s.out.length ko, .int .i64 s.done, .int .i64 s.value] 47]) (i := 1) (by simp) rfl)
  have BB := Lib.hid hb
  have HL := Lib.hid (HL.out.below hb)
  have RP := Lib.hid (RP.out.below hb)
  have RS := Lib.hid (RS.out.below hb)
  clear hb
  have c0 := PP.out.cell (k := 0) (by simp)
  obtain ⟨s0, s1, s2, s3, s4⟩ := five PS.out
  simp only [List.getElem_cons_zero] at c0
  go_enter Tryz.func4, Tryz.ntmps4
  go_upto_region 1 with fail
  generalize hw3 : ((W.alloc (.cells #[.slice A p.length c] 24)).alloc (.cells #[.slice C s.frames.length k, .int .i64 s.fuel, .slice Co s.out.length ko, .int .i64 s.done, .int .i64 s.value] 47)) = w3 at *
  clear hw3 c0 s0 s1 s2 s3 s4
  have HALL := Lib.hid (show ∀ W', Below w3.heap.size w3 W' → W'.cell? ⟨W.heap.size, 0, none⟩ = some (.slice A p.length c) ∧ W'.cell? ⟨(W.heap.size + 1), 0, none⟩ = some (.slice C s.frames.length k) ∧ W'.cell? ⟨(W.heap.size + 1), 1, none⟩ = some (.int .i64 s.fuel) ∧ W'.cell? ⟨(W.heap.size + 1), 2, none⟩ = some (.slice Co s.out.length ko) ∧ W'.cell? ⟨(W.heap.size + 1), 3, none⟩ = some (.int .i64 s.done) ∧ W'.cell? ⟨(W.heap.size + 1), 4, none⟩ = some (.int .i64 s.value) from fun W' hb => ⟨(PP.out.below hb).cell (k := 0) (by simp), (PS.out.below hb).cell (k := 0) (by simp), (PS.out.below hb).cell (k := 1) (by simp), (PS.out.below hb).cell (k := 2) (by simp), (PS.out.below hb).cell (k := 3) (by simp), (PS.out.below hb).cell (k := 4) (by simp)⟩)
  have HC := Lib.hid (show ∀ W', Below w3.heap.size w3 W' → Calls Tryz.prog 24 #[.agg #[.slice A p.length c]] W' (ProgE p W') from fun W' hb => copyProgram_any A c p _ (RP.out.below hb) HZ.out)
  have HD := Lib.hid (show ∀ W', Below w3.heap.size w3 W' → Calls Tryz.prog 25 #[.agg #[.slice C s.frames.length k, .int .i64 s.fuel, .slice Co s.out.length ko, .int .i64 s.done, .int .i64 s.value]] W' (CopyE s W') from fun W' hb => copyState_any s C Co k ko _ (RS.out.below hb) HZS.out)
  refine wp_region_inv_of (fun a0 l a' w => ∃ x18 x19 x20 x21 x11 x12 b0 b1 b2 b3 b4 b5 b6 b7 l1 h1 l2 h2 bx bz, l = #[b0, b1, b2, b3, b4, b5, b6, b7] ∧ a' = ((((((a0.put (some 11) x18).put (some 12) x19).put (some 13) x20).put (some 14) x21).put (some 5) x11).put (some 6) x12) ∧ (b0 = true → x18 = .agg #[.slice A p.length c]) ∧ (b2 = true → x20 = .agg #[.slice C s.frames.length k, .int .i64 s.fuel, .slice Co s.out.length ko, .int .i64 s.done, .int .i64 s.value]) ∧
    Two2 w3 24 47 [.slice none 0 0] [.slice none 0 0, .int .i64 0, .slice none 0 0, .int .i64 0, .int .i64 0] aggC aggC (IsProg p) (IsState s) x19 x21 x11 x12 b1 b3 b4 b5 b6 b7 l1 h1 l2 h2 bx bz w) (by kernel_rfl) ?_ ?_ ?_
  · exact ⟨undef, undef, undef, undef, undef, undef, false, false, false, false, false, false, false, false, 0, 0, 0, 0, 0, 0, rfl, rfl, (fun e => by cases e), (fun e => by cases e), Two2.start _ _ _ _ _ _ _ _ _ _ _ _ _ _ (below_drew (Below.refl _ _) 1)⟩
  · rintro l a' w ⟨x18, x19, x20, x21, x11, x12, b0, b1, b2, b3, b4, b5, b6, b7, l1, h1, l2, h2, bx, bz, rfl, rfl, g18, g20, hJ⟩ hr
    obtain rfl : b0 = true := by simpa using all_listed (i := 0) hr rfl (by rfl)
    obtain rfl : b1 = true := by simpa using all_listed (i := 1) hr rfl (by rfl)
    obtain rfl : b2 = true := by simpa using all_listed (i := 2) hr rfl (by rfl)
    obtain rfl : b3 = true := by simpa using all_listed (i := 3) hr rfl (by rfl)
    obtain rfl : b4 = true := by simpa using all_listed (i := 4) hr rfl (by rfl)
    obtain rfl : b5 = true := by simpa using all_listed (i := 5) hr rfl (by rfl)
    obtain rfl : b6 = true := by simpa using all_listed (i := 6) hr rfl (by rfl)
    obtain rfl : b7 = true := by simpa using all_listed (i := 7) hr rfl (by rfl)
    obtain ⟨ao, co, base, rfl, hO⟩ := (hJ.got1 rfl).2.2.now
    obtain ⟨A3, d3, Ao3, do3, vss, base2, rfl, hd3, hO2⟩ := (hJ.got2 rfl).2.2.now
    obtain ⟨rfl, -, -, hX⟩ := hJ.isX rfl
    obtain ⟨rfl, -, -, hY⟩ := hJ.isY rfl
    obtain rfl := g18 rfl
    obtain rfl := g20 rfl
    have RX := Lib.hid hO.reads
    have RY := Lib.hid (show ReadsS w s A3 Ao3 by
      obtain ⟨_, _, _, _, e1, e2, _, hrs⟩ := hO2.reads
      cases e1; cases e2; exact hrs)
    have XX := Lib.hid (show RowAt 24 bx [.slice ao p.length co] w from hX)
    have YY := Lib.hid (show RowAt 47 bz [.slice A3 s.frames.length d3, .int .i64 s.fuel, .slice Ao3 s.out.length do3, .int .i64 s.done, .int .i64 s.value] w from hY)
    have B4 := Lib.hid hJ.below
    have HD3 := Lib.hid hd3
    clear hr hJ hO hO2 hX hY g18 g20 HC HD HALL hd3
    simp only [Act.put, List.setIfInBounds_toArray, List.set_cons_zero, List.set_cons_succ]
    have HL := Lib.hid (HL.out.below B4.out)
    have RP := Lib.hid (RP.out.below B4.out)
    have RS := Lib.hid (RS.out.below B4.out)
    have PP := Lib.hid (PP.out.below B4.out)
    have PS := Lib.hid (PS.out.below B4.out)
    have BB := Lib.hid (below_trans BB.out B4.out)
    clear B4
    have HL4 := HL
    have RP4 := RP
    have RS4 := RS
    have PP4 := PP
    have PS4 := PS
    have RX4 := RX
    have RY4 := RY
    have XX4 := XX
    have YY4 := YY
    have BB4 := BB
    have B4 := Lib.hid (Below.refl w.heap.size w)
    obtain ⟨sa, hsa⟩ : ∃ sa, stepS p s = sa := ⟨_, rfl⟩
    obtain ⟨ca, hca⟩ : ∃ ca, stepC p s = ca := ⟨_, rfl⟩
    have H := step_any p ao A3 Ao3 co d3 do3 s w HL.out RX.out RY.out HD3.out
    unfold sttV at H
    rw [hsa, hca] at H
    replace H := Lib.hid H
    have x0 := XX.out.cell (k := 0) (by simp)
    simp only [List.getElem_cons_zero] at x0
    obtain ⟨y0, y1, y2, y3, y4⟩ := five YY.out
    have HSA := Lib.hid hsa
    have HCA := Lib.hid hca
    clear hsa hca
    go_wp2_with fail
    (with_reducible refine H.out.mono ?_)
    rintro e w5 ⟨fv, ov, vss2, rfl, hos, hB⟩
    clear H x0 y0 y1 y2 y3 y4
    obtain ⟨A5, d5, Ao5, do5, rfl, rfl, -, hrs5⟩ := hos.reads
    unfold sttV
    have HL := Lib.hid (HL.out.below hB)
    have RP := Lib.hid (RP.out.below hB)
    have RS := Lib.hid (RS.out.below hB)
    have PP := Lib.hid (PP.out.below hB)
    have PS := Lib.hid (PS.out.below hB)
    have RX := Lib.hid (RX.out.below hB)
    have RY := Lib.hid (RY.out.below hB)
    have XX := Lib.hid (XX.out.below hB)
    have YY := Lib.hid (YY.out.below hB)
    have BB := Lib.hid (below_trans BB.out hB)
    have B4 := Lib.hid (below_trans B4.out hB)
    clear hB
    have b5 := below_alloc (Below.refl w5.heap.size w5) (.cells #[.slice A5 sa.frames.length d5, .int .i64 sa.fuel, .slice Ao5 sa.out.length do5, .int .i64 sa.done, .int .i64 sa.value] 47)
    have AA := Lib.hid (RowAt.new 47 [.slice A5 sa.frames.length d5, .int .i64 sa.fuel, .slice Ao5 sa.out.length do5, .int .i64 sa.done, .int .i64 sa.value] w5)
    have OA := Lib.hid (hos.below b5)
    have AAR := Lib.hid (hrs5.below b5)
    have HL := Lib.hid (HL.out.below b5)
    have RP := Lib.hid (RP.out.below b5)
    have RS := Lib.hid (RS.out.below b5)
    have PP := Lib.hid (PP.out.below b5)
    have PS := Lib.hid (PS.out.below b5)
    have RX := Lib.hid (RX.out.below b5)
    have RY := Lib.hid (RY.out.below b5)
    have XX := Lib.hid (XX.out.below b5)
    have YY := Lib.hid (YY.out.below b5)
    have BB := Lib.hid (below_trans BB.out b5)
    have B4 := Lib.hid (below_trans B4.out b5)
    clear b5 hos hrs5
    have hsa := HSA.out
    have hca := HCA.out
    obtain ⟨w6, hw6⟩ : ∃ w6, w5.alloc (.cells #[.slice A5 sa.frames.length d5, .int .i64 sa.fuel, .slice Ao5 sa.out.length do5, .int .i64 sa.done, .int .i64 sa.value] 47) = w6 := ⟨_, rfl⟩
    rw [hw6] at HL RP RS PP PS RX RY XX YY AA OA AAR BB B4
    have H := rstep_any p A C Co c k ko s w6 RP.out RS.out
    unfold sttV at H
    rw [hsa, hca] at H
    replace H := Lib.hid H
    have x0 := PP.out.cell (k := 0) (by simp)
    simp only [List.getElem_cons_zero] at x0
    obtain ⟨y0, y1, y2, y3, y4⟩ := five PS.out
    have HSA := Lib.hid hsa
    have HCA := Lib.hid hca
    clear hsa hca
    go_wp2_with fail
    (with_reducible refine H.out.mono ?_)
    rintro e w7 ⟨fv, ov, vss3, rfl, hos, hB⟩
    clear H x0 y0 y1 y2 y3 y4
    obtain ⟨A6, d6, Ao6, do6, rfl, rfl, -, hrs5⟩ := hos.reads
    unfold sttV
    have HL := Lib.hid (HL.out.below hB)
    have RP := Lib.hid (RP.out.below hB)
    have RS := Lib.hid (RS.out.below hB)
    have PP := Lib.hid (PP.out.below hB)
    have PS := Lib.hid (PS.out.below hB)
    have RX := Lib.hid (RX.out.below hB)
    have RY := Lib.hid (RY.out.below hB)
    have XX := Lib.hid (XX.out.below hB)
    have YY := Lib.hid (YY.out.below hB)
    have AA := Lib.hid (AA.out.below hB)
    have OA := Lib.hid (OA.out.below hB)
    have AAR := Lib.hid (AAR.out.below hB)
    have BB := Lib.hid (below_trans BB.out hB)
    have B4 := Lib.hid (below_trans B4.out hB)
    clear hB
    have b5 := below_alloc (Below.refl w7.heap.size w7) (.cells #[.slice A6 sa.frames.length d6, .int .i64 sa.fuel, .slice Ao6 sa.out.length do6, .int .i64 sa.done, .int .i64 sa.value] 47)
    have DD := Lib.hid (RowAt.new 47 [.slice A6 sa.frames.length d6, .int .i64 sa.fuel, .slice Ao6 sa.out.length do6, .int .i64 sa.done, .int .i64 sa.value] w7)
    have OD := Lib.hid (hos.below b5)
    have DDR := Lib.hid (hrs5.below b5)
    have HL := Lib.hid (HL.out.below b5)
    have RP := Lib.hid (RP.out.below b5)
    have RS := Lib.hid (RS.out.below b5)
    have PP := Lib.hid (PP.out.below b5)
    have PS := Lib.hid (PS.out.below b5)
    have RX := Lib.hid (RX.out.below b5)
    have RY := Lib.hid (RY.out.below b5)
    have XX := Lib.hid (XX.out.below b5)
    have YY := Lib.hid (YY.out.below b5)
    have AA := Lib.hid (AA.out.below b5)
    have OA := Lib.hid (OA.out.below b5)
    have AAR := Lib.hid (AAR.out.below b5)
    have BB := Lib.hid (below_trans BB.out b5)
    have B4 := Lib.hid (below_trans B4.out b5)
    clear b5 hos hrs5
    have hsa := HSA.out
    have hca := HCA.out
    obtain ⟨w8, hw8⟩ : ∃ w8, w7.alloc (.cells #[.slice A6 sa.frames.length d6, .int .i64 sa.fuel, .slice Ao6 sa.out.length do6, .int .i64 sa.done, .int .i64 sa.value] 47) = w8 := ⟨_, rfl⟩
    rw [hw8] at HL RP RS PP PS RX RY XX YY AA OA AAR DD OD DDR BB B4
    have H := sameState_any sa sa A5 Ao5 A6 Ao6 d5 do5 d6 do6 w8 AAR.out DDR.out
    rw [decide_eq_true rfl] at H
    unfold sttV at H
    replace H := Lib.hid H
    obtain ⟨y0, y1, y2, y3, y4⟩ := five AA.out
    obtain ⟨z0, z1, z2, z3, z4⟩ := five DD.out
    have HNUM := Lib.hid (fun (n : Int) (W : World) => numL_any n W)
    have dn : (ca != ca) = false := by simp
    clear hsa hca
    go_wp2_with fail
    (with_reducible refine H.out.mono ?_)
    rintro e w9 ⟨rfl, hB⟩
    clear H y0 y1 y2 y3 y4 z0 z1 z2 z3 z4
    have AA := Lib.hid (AA.out.below hB)
    have OA := Lib.hid (OA.out.below hB)
    have BB := Lib.hid (below_trans BB.out hB)
    have B4 := Lib.hid (below_trans B4.out hB)
    clear hB hw6 hw8
    have H := spoilState_any sa A5 Ao5 d5 do5 w.heap.size vss2 w9 OA.out
    unfold sttV at H
    replace H := Lib.hid H
    obtain ⟨a0, a1, a2, a3, a4⟩ := five AA.out
    go_wp2_with (first | (go_at_call 19; (with_reducible refine (HNUM.out _ _).mono ?_); rintro e wn ⟨rfl, rfl⟩) | fail)
    (with_reducible refine H.out.mono ?_)
    rintro e w10 ⟨rfl, hch⟩
    have b9 := Chg.below B4.out hch (fun _ h => h)
    clear H a0 a1 a2 a3 a4 hch HNUM dn
    have HL := Lib.hid (HL4.out.below b9)
    have RP := Lib.hid (RP4.out.below b9)
    have RS := Lib.hid (RS4.out.below b9)
    have PP := Lib.hid (PP4.out.below b9)
    have PS := Lib.hid (PS4.out.below b9)
    have RX := Lib.hid (RX4.out.below b9)
    have RY := Lib.hid (RY4.out.below b9)
    have XX := Lib.hid (XX4.out.below b9)
    have YY := Lib.hid (YY4.out.below b9)
    have BB := Lib.hid (below_trans BB4.out b9)
    clear b9
    have H := Lib.hid (sameProgram_any ao A co c p p w10 RX.out RP.out)
    rw [decide_eq_true rfl] at H
    have y0 := XX.out.cell (k := 0) (by simp)
    have y1 := PP.out.cell (k := 0) (by simp)
    simp only [List.getElem_cons_zero] at y0 y1
    go_wp2_with fail
    (with_reducible refine H.out.mono ?_)
    rintro e w11 ⟨rfl, hB⟩
    clear H y0 y1
    have HL := Lib.hid (HL.out.below hB)
    have RP := Lib.hid (RP.out.below hB)
    have RS := Lib.hid (RS.out.below hB)
    have PP := Lib.hid (PP.out.below hB)
    have PS := Lib.hid (PS.out.below hB)
    have RX := Lib.hid (RX.out.below hB)
    have RY := Lib.hid (RY.out.below hB)
    have XX := Lib.hid (XX.out.below hB)
    have YY := Lib.hid (YY.out.below hB)
    have BB := Lib.hid (below_trans BB.out hB)
    clear hB
    have H := sameState_any s s A3 Ao3 C Co d3 do3 k ko w11 RY.out RS.out
    rw [decide_eq_true rfl] at H
    unfold sttV at H
    replace H := Lib.hid H
    obtain ⟨y0, y1, y2, y3, y4⟩ := five YY.out
    obtain ⟨z0, z1, z2, z3, z4⟩ := five PS.out
    go_wp2_with fail
    (with_reducible refine H.out.mono ?_)
    rintro e w12 ⟨rfl, hB⟩
    clear H y0 y1 y2 y3 y4 z0 z1 z2 z3 z4
    have HL := Lib.hid (HL.out.below hB)
    have BB := Lib.hid (below_trans BB.out hB)
    clear hB
    have H := Lib.hid (awake7_any w12 HL.out)
    go_wp2_with fail
    (with_reducible refine H.out.mono ?_)
    rintro e w13 ⟨rfl, hB⟩
    have BB := Lib.hid (below_trans BB.out hB)
    clear H hB
    go_wp2_with fail
    go_ret
    exact ⟨rfl, BB.out⟩
  · rintro l a' w i ⟨x18, x19, x20, x21, x11, x12, b0, b1, b2, b3, b4, b5, b6, b7, l1, h1, l2, h2, bx, bz, rfl, rfl, g18, g20, hJ⟩ hi
    obtain ⟨hu, o, ho, ha⟩ := mem_ready.1 hi
    clear hi
    match i, hu, ho with
    | 0, hu, ho =>
      cases ho
      obtain ⟨c0, s0, s1, s2, s3, s4⟩ := HALL.out w hJ.below
      simp only [Act.put, List.setIfInBounds_toArray, List.set_cons_zero, List.set_cons_succ]
      refine wpOp_step rfl (fun K hK => ?_)
      go_simp
      refine hK _ _ ?_
      exact ⟨.agg #[.slice A p.length c], x19, x20, x21, x11, x12, true, b1, b2, b3, b4, b5, b6, b7, l1, h1, l2, h2, bx, bz, rfl, rfl, (fun _ => rfl), g20, hJ⟩
    | 1, hu, ho =>
      cases ho
      obtain rfl : b0 = true := by simpa using ha ⟨0, .data⟩ (by simp) rfl
      obtain rfl : b1 = false := by simpa using hu
      obtain rfl := g18 rfl
      simp only [Act.put, List.setIfInBounds_toArray, List.set_cons_zero, List.set_cons_succ]
      refine wpOp_step rfl (fun K hK => ?_)
      go_simp
      (with_reducible refine (HC.out w hJ.below).mono ?_)
      rintro e w' ⟨ao, co, rfl, hO, hB⟩
      go_simp
      refine hK _ _ ?_
      exact ⟨_, .agg #[.slice ao p.length co], x20, x21, x11, x12, true, true, b2, b3, b4, b5, b6, b7, w.heap.size, w'.heap.size, l2, h2, bx, bz, rfl, rfl, (fun _ => rfl), g20, hJ.call1 hB (fun T w'' hk hd => ⟨ao, co, _, rfl, hO.stays T w'' hk hd⟩)⟩
    | 2, hu, ho =>
      cases ho
      obtain ⟨c0, s0, s1, s2, s3, s4⟩ := HALL.out w hJ.below
      simp only [Act.put, List.setIfInBounds_toArray, List.set_cons_zero, List.set_cons_succ]
      refine wpOp_step rfl (fun K hK => ?_)
      go_simp
      refine hK _ _ ?_
      exact ⟨x18, x19, .agg #[.slice C s.frames.length k, .int .i64 s.fuel, .slice Co s.out.length ko, .int .i64 s.done, .int .i64 s.value], x21, x11, x12, b0, b1, true, b3, b4, b5, b6, b7, l1, h1, l2, h2, bx, bz, rfl, rfl, g18, (fun _ => rfl), hJ⟩
    | 3, hu, ho =>
      cases ho
      obtain rfl : b2 = true := by simpa using ha ⟨2, .data⟩ (by simp) rfl
      obtain rfl : b3 = false := by simpa using hu
      obtain rfl := g20 rfl
      simp only [Act.put, List.setIfInBounds_toArray, List.set_cons_zero, List.set_cons_succ]
      refine wpOp_step rfl (fun K hK => ?_)
      go_simp
      (with_reducible refine (HD.out w hJ.below).mono ?_)
      rintro e w' ⟨fv, ov, vss, rfl, hO, hB⟩
      obtain ⟨A3, d3, Ao3, do3, rfl, rfl, hd3, -⟩ := hO.reads
      unfold sttV
      go_simp
      refine hK _ _ ?_
      exact ⟨x18, x19, _, .agg #[.slice A3 s.frames.length d3, .int .i64 s.fuel, .slice Ao3 s.out.length do3, .int .i64 s.done, .int .i64 s.value], x11, x12, b0, b1, true, true, b4, b5, b6, b7, l1, h1, w.heap.size, w'.heap.size, bx, bz, rfl, rfl, g18, (fun _ => rfl), hJ.call2 hB (fun T w'' hk hd => ⟨A3, d3, Ao3, do3, vss, _, rfl, hd3, hO.stays T w'' hk hd⟩)⟩
    | 4, hu, ho =>
      cases ho
      obtain rfl : b4 = false := by simpa using hu
      simp only [Act.put, List.setIfInBounds_toArray, List.set_cons_zero, List.set_cons_succ]
      refine wpOp_step rfl (fun K hK => ?_)
      go_simp
      refine hK _ _ ?_
      exact ⟨x18, x19, x20, x21, .pointer (some ⟨w.heap.size, 0, none⟩), x12, b0, b1, b2, b3, true, b5, b6, b7, l1, h1, l2, h2, w.heap.size, bz, rfl, rfl, g18, g20, hJ.newX⟩
    | 5, hu, ho =>
      cases ho
      obtain rfl : b5 = false := by simpa using hu
      simp only [Act.put, List.setIfInBounds_toArray, List.set_cons_zero, List.set_cons_succ]
      refine wpOp_step rfl (fun K hK => ?_)
      go_simp
      refine hK _ _ ?_
      exact ⟨x18, x19, x20, x21, x11, .pointer (some ⟨w.heap.size, 0, none⟩), b0, b1, b2, b3, b4, true, b6, b7, l1, h1, l2, h2, bx, w.heap.size, rfl, rfl, g18, g20, hJ.newY⟩
    | 6, hu, ho =>
      cases ho
      obtain rfl : b4 = true := by simpa using ha ⟨4, .data⟩ (by simp) rfl
      obtain rfl : b1 = true := by simpa using ha ⟨1, .data⟩ (by simp) rfl
      obtain rfl : b3 = true := by simpa using ha ⟨3, .chain⟩ (by simp) rfl
      obtain rfl : b5 = true := by simpa using ha ⟨5, .phase⟩ (by simp) rfl
      obtain rfl : b6 = false := by simpa using hu
      obtain ⟨ao, co, base, rfl, hO⟩ := (hJ.got1 rfl).2.2.now
      obtain ⟨rfl, hge, hlt, hrow⟩ := hJ.isX rfl
      have hrow : RowAt 24 bx [.slice none 0 0] w := hrow
      have q0 := hrow.cell (k := 0) (by simp)
      have f0 := hrow.free 0
      simp only [List.getElem_cons_zero] at q0
      simp only [Act.put, List.setIfInBounds_toArray, List.set_cons_zero, List.set_cons_succ]
      refine wpOp_step rfl (fun K hK => ?_)
      go_simp
      have hk := (Chg.refl (fun b => b = bx) w).put (a := ⟨bx, 0, none⟩) rfl (.slice ao p.length co)
      have hr2 : RowAt 24 bx (aggC (.agg #[.slice ao p.length co])) (w.setCell ⟨bx, 0, none⟩ (.slice ao p.length co)) := hrow.put 0 (.slice ao p.length co)
      refine hK _ _ ?_
      exact ⟨x18, _, x20, x21, _, x12, b0, true, b2, true, true, true, true, b7, l1, h1, l2, h2, bx, bz, rfl, rfl, g18, g20, hJ.putX hk hr2⟩
    | 7, hu, ho =>
      cases ho
      obtain rfl : b4 = true := by simpa using ha ⟨4, .phase⟩ (by simp) rfl
      obtain rfl : b1 = true := by simpa using ha ⟨1, .phase⟩ (by simp) rfl
      obtain rfl : b3 = true := by simpa using ha ⟨3, .data⟩ (by simp) rfl
      obtain rfl : b5 = true := by simpa using ha ⟨5, .data⟩ (by simp) rfl
      obtain rfl : b7 = false := by simpa using hu
      obtain ⟨A3, d3, Ao3, do3, vss, base, rfl, hd3, hO⟩ := (hJ.got2 rfl).2.2.now
      obtain ⟨rfl, hge, hlt, hrow⟩ := hJ.isY rfl
      have hrow : RowAt 47 bz [.slice none 0 0, .int .i64 0, .slice none 0 0, .int .i64 0, .int .i64 0] w := hrow
      obtain ⟨q0, q1, q2, q3, q4⟩ := five hrow
      have f0 := hrow.free 0
      have f1 := hrow.free 1
      have f2 := hrow.free 2
      have f3 := hrow.free 3
      have f4 := hrow.free 4
      simp only [Act.put, List.setIfInBounds_toArray, List.set_cons_zero, List.set_cons_succ]
      refine wpOp_step rfl (fun K hK => ?_)
      go_simp
      have hk := ((((((Chg.refl (fun b => b = bz) w).put (a := ⟨bz, 0, none⟩) rfl (.slice A3 s.frames.length d3)).put (a := ⟨bz, 1, none⟩) rfl (.int .i64 s.fuel)).put (a := ⟨bz, 2, none⟩) rfl (.slice Ao3 s.out.length do3)).put (a := ⟨bz, 3, none⟩) rfl (.int .i64 s.done)).put (a := ⟨bz, 4, none⟩) rfl (.int .i64 s.value))
      have hr2 : RowAt 47 bz (aggC (.agg #[.slice A3 s.frames.length d3, .int .i64 s.fuel, .slice Ao3 s.out.length do3, .int .i64 s.done, .int .i64 s.value])) (((((w.setCell ⟨bz, 0, none⟩ (.slice A3 s.frames.length d3)).setCell ⟨bz, 1, none⟩ (.int .i64 s.fuel)).setCell ⟨bz, 2, none⟩ (.slice Ao3 s.out.length do3)).setCell ⟨bz, 3, none⟩ (.int .i64 s.done)).setCell ⟨bz, 4, none⟩ (.int .i64 s.value)) := (((((hrow.put 0 (.slice A3 s.frames.length d3)).put 1 (.int .i64 s.fuel)).put 2 (.slice Ao3 s.out.length do3)).put 3 (.int .i64 s.done)).put 4 (.int .i64 s.value))
      refine hK _ _ ?_
      exact ⟨x18, x19, x20, _, x11, _, b0, true, b2, true, true, true, b6, true, l1, h1, l2, h2, bx, bz, rfl, rfl, g18, g20, hJ.putY hk hr2⟩
    | n + 8, hu, ho => simp at ho
end Go.Proofs.YtpfgklkdldkajaaGreatDoor
