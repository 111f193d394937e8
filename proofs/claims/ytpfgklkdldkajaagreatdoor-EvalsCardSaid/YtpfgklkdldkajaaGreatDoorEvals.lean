/- The law Evals, walked. Conditions: the program, the args, the state lie in memory; errors.errorType is laid. -/
import Derived.Test.YtpfgklkdldkajaaGreatDoorREval
import Derived.Test.YtpfgklkdldkajaaGreatDoorGZ25
import Derived.Test.YtpfgklkdldkajaaGreatDoorGZ20
import Derived.Test.YtpfgklkdldkajaaGreatDoorGZ28
namespace Go.Proofs.YtpfgklkdldkajaaGreatDoor
open Go.RowKit

/-- The cells of a struct's value. -/
def aggC : Value → List Value
  | .agg xs => xs.toList
  | _ => []
def IsProg (p : List Fn) (v : Value) (w : World) : Prop := ∃ ao co base, v = .agg #[.slice ao p.length co] ∧ OwnF w base (.slice ao p.length co) p
def IsState (s : Stt) (v : Value) (w : World) : Prop := ∃ A c Ao co vss base, v = .agg #[.slice A s.frames.length c, .int .i64 s.fuel, .slice Ao s.out.length co, .int .i64 s.done, .int .i64 s.value] ∧ s.frames.length ≤ c ∧ OwnS w base s (.slice A s.frames.length c) (.slice Ao s.out.length co) vss
theorem five {t b : Nat} {v0 v1 v2 v3 v4 : Value} {w : World} (h : RowAt t b [v0, v1, v2, v3, v4] w) : w.cell? ⟨b, 0, none⟩ = some v0 ∧ w.cell? ⟨b, 1, none⟩ = some v1 ∧ w.cell? ⟨b, 2, none⟩ = some v2 ∧ w.cell? ⟨b, 3, none⟩ = some v3 ∧ w.cell? ⟨b, 4, none⟩ = some v4 :=
  ⟨h.cell (k := 0) (by simp), h.cell (k := 1) (by simp), h.cell (k := 2) (by simp), h.cell (k := 3) (by simp), h.cell (k := 4) (by simp)⟩
/-- The four cells of a result. -/
theorem fourR {t b : Nat} {v0 v1 v2 v3 : Value} {w : World} (h : RowAt t b [v0, v1, v2, v3] w) : w.cell? ⟨b, 0, none⟩ = some v0 ∧ w.cell? ⟨b, 1, none⟩ = some v1 ∧ w.cell? ⟨b, 2, none⟩ = some v2 ∧ w.cell? ⟨b, 3, none⟩ = some v3 :=
  ⟨h.cell (k := 0) (by simp), h.cell (k := 1) (by simp), h.cell (k := 2) (by simp), h.cell (k := 3) (by simp)⟩
set_option maxRecDepth 100000 in
set_option maxHeartbeats 8000000 in
theorem evals_yes (A : Option Addr) (c : Nat) (p : List Fn) (D : Option Addr) (cap : Nat) (args : List Int) (fuel : Int) (C : Option Addr) (k : Nat) (Co : Option Addr) (ko : Nat) (s : Stt) (W : World) (hl : Laid W) (hr : ReadsF W A p) (hz : Fits p) (ha : ReadsI W D args) (hs : ReadsS W s C Co ∧ s.frames.length ≤ k) (hzs : FitS s) :
    Calls Tryz.prog 8 #[.agg #[.slice A p.length c], .slice D args.length cap, .int .i64 fuel, .agg #[.slice C s.frames.length k, .int .i64 s.fuel, .slice Co s.out.length ko, .int .i64 s.done, .int .i64 s.value]] W (Ret (.bool true) W) := by
  have HL := Lib.hid hl
  have RP := Lib.hid hr
  have RA := Lib.hid ha
  have RS := Lib.hid hs.1
  have HZ := Lib.hid hz
  have HZS := Lib.hid hzs
  clear hl hr hs hz hzs ha
  have hb : Below W.heap.size W ((W.alloc (.cells #[.slice A p.length c] 24)).alloc (.cells #[.slice C s.frames.length k, .int .i64 s.fuel, .slice Co s.out.length ko, .int .i64 s.done, .int .i64 s.value] 47)) := allocsL_below [.cells #[.slice A p.length c] 24, .cells #[.slice C s.frames.length k, .int .i64 s.fuel, .slice Co s.out.length ko, .int .i64 s.done, .int .i64 s.value] 47] W
  have PP := Lib.hid (show RowAt 24 W.heap.size [.slice A p.length c] ((W.alloc (.cells #[.slice A p.length c] 24)).alloc (.cells #[.slice C s.frames.length k, .int .i64 s.fuel, .slice Co s.out.length ko, .int .i64 s.done, .int .i64 s.value] 47)) from rowL (w := W) (os := [.cells #[.slice A p.length c] 24, .cells #[.slice C s.frames.length k, .int .i64 s.fuel, .slice Co s.out.length ko, .int .i64 s.done, .int .i64 s.value] 47]) (i := 0) (by simp) rfl)
  have PS := Lib.hid (show RowAt 47 (W.heap.size + 1) [.slice C s.frames.length k, .int .i64 s.fuel, .slice Co s.out.length ko, .int .i64 s.done, .int .i64 s.value] ((W.alloc (.cells #[.slice A p.length c] 24)).alloc (.cells #[.slice C s.frames.length k, .int .i64 s.fuel, .slice Co s.out.length ko, .int .i64 s.done, .int .i64 s.value] 47)) from rowL (w := W) (os := [.cells #[.slice A p.length c] 24, .cells #[.slice C s.frames.length k, .int .i64 s.fuel, .slice Co s.out.length ko, .int .i64 s.done, .int .i64 s.value] 47]) (i := 1) (by simp) rfl)
  have BB := Lib.hid hb
  have HL := Lib.hid (HL.out.below hb)
  have RP := Lib.hid (RP.out.below hb)
  have RA := Lib.hid (RA.out.below hb)
  have RS := Lib.hid (RS.out.below hb)
  clear hb
  have c0 := PP.out.cell (k := 0) (by simp)
  obtain ⟨s0, s1, s2, s3, s4⟩ := five PS.out
  simp only [List.getElem_cons_zero] at c0
  go_enter Tryz.func8, Tryz.ntmps8
  go_upto_region 1 with fail
  generalize hw3 : ((W.alloc (.cells #[.slice A p.length c] 24)).alloc (.cells #[.slice C s.frames.length k, .int .i64 s.fuel, .slice Co s.out.length ko, .int .i64 s.done, .int .i64 s.value] 47)) = w3 at *
  clear hw3 c0 s0 s1 s2 s3 s4
  have HALL := Lib.hid (show ∀ W', Below w3.heap.size w3 W' → W'.cell? ⟨W.heap.size, 0, none⟩ = some (.slice A p.length c) ∧ W'.cell? ⟨(W.heap.size + 1), 0, none⟩ = some (.slice C s.frames.length k) ∧ W'.cell? ⟨(W.heap.size + 1), 1, none⟩ = some (.int .i64 s.fuel) ∧ W'.cell? ⟨(W.heap.size + 1), 2, none⟩ = some (.slice Co s.out.length ko) ∧ W'.cell? ⟨(W.heap.size + 1), 3, none⟩ = some (.int .i64 s.done) ∧ W'.cell? ⟨(W.heap.size + 1), 4, none⟩ = some (.int .i64 s.value) from fun W' hb => ⟨(PP.out.below hb).cell (k := 0) (by simp), (PS.out.below hb).cell (k := 0) (by simp), (PS.out.below hb).cell (k := 1) (by simp), (PS.out.below hb).cell (k := 2) (by simp), (PS.out.below hb).cell (k := 3) (by simp), (PS.out.below hb).cell (k := 4) (by simp)⟩)
  have HC := Lib.hid (show ∀ W', Below w3.heap.size w3 W' → Calls Tryz.prog 24 #[.agg #[.slice A p.length c]] W' (ProgE p W') from fun W' hb => copyProgram_any A c p _ (RP.out.below hb) HZ.out)
  have HD := Lib.hid (show ∀ W', Below w3.heap.size w3 W' → Calls Tryz.prog 25 #[.agg #[.slice C s.frames.length k, .int .i64 s.fuel, .slice Co s.out.length ko, .int .i64 s.done, .int .i64 s.value]] W' (CopyE s W') from fun W' hb => copyState_any s C Co k ko _ (RS.out.below hb) HZS.out)
  refine wp_region_inv_of (fun a0 l a' w => ∃ x18 x19 x20 x21 x11 x12 b0 b1 b2 b3 b4 b5 b6 b7 l1 h1 l2 h2 bx bz, l = #[b0, b1, b2, b3, b4, b5, b6, b7] ∧ a' = ((((((a0.put (some 19) x18).put (some 20) x19).put (some 21) x20).put (some 22) x21).put (some 9) x11).put (some 10) x12) ∧ (b0 = true → x18 = .agg #[.slice A p.length c]) ∧ (b2 = true → x20 = .agg #[.slice C s.frames.length k, .int .i64 s.fuel, .slice Co s.out.length ko, .int .i64 s.done, .int .i64 s.value]) ∧
    Two2 w3 24 47 [.slice none 0 0] [.slice none 0 0, .int .i64 0, .slice none 0 0, .int .i64 0, .int .i64 0] aggC aggC (IsProg p) (IsState s) x19 x21 x11 x12 b1 b3 b4 b5 b6 b7 l1 h1 l2 h2 bx bz w) (by kernel_rfl) ?_ ?_ ?_
  · exact ⟨undef, undef, undef, undef, undef, undef, false, false, false, false, false, false, false, false, 0, 0, 0, 0, 0, 0, rfl, rfl, (fun e => by cases e), (fun e => by cases e), Two2.start _ _ _ _ _ _ _ _ _ _ _ _ _ _ (below_drew (Below.refl _ _) 1)⟩
  · rintro l a' w ⟨x18, x19, x20, x21, x11, x12, b0, b1, b2, b3, b4, b5, b6, b7, l1, h1, l2, h2, bx, bz, rfl, rfl, g18, g20, hJ⟩ hr
    obtain rfl : b0 = true := by simpa using all_listed (i := 0) hr rfl (by rfl)
    obtain rfl : b1 = true := by simpa using all_listed (i := 1) hr rfl (by rfl)
    obtain rfl : b2 = true := by simpa using all_listed (i := 2) hr rfl (by rfl)
    obtain rfl : b3 = true := by simpa using all_listed (i := 3) hr rfl (by rfl)
    obtain rfl : b4 = true := by simpa using all_listed (i := 4) hr rfl (by rfl)
    obtain rfl : b5 = true := by simpa using all_listed (i := 5) hr rfl (by rfl)
    obtain rfl : b6 = true := by simpa using all_listed (i := 6) hr rfl (by rfl)
    obtain rfl : b7 = true := by simpa using all_listed (i := 7) hr rfl (by rfl)
    obtain ⟨ao, co, base, rfl, hO⟩ := (hJ.got1 rfl).2.2.now
    obtain ⟨A3, d3, Ao3, do3, vss, base2, rfl, hd3, hO2⟩ := (hJ.got2 rfl).2.2.now
    obtain ⟨rfl, -, -, hX⟩ := hJ.isX rfl
    obtain ⟨rfl, -, -, hY⟩ := hJ.isY rfl
    obtain rfl := g18 rfl
    obtain rfl := g20 rfl
    have RX := Lib.hid hO.reads
    have RY := Lib.hid (show ReadsS w s A3 Ao3 by
      obtain ⟨_, _, _, _, e1, e2, _, hrs⟩ := hO2.reads
      cases e1; cases e2; exact hrs)
    have XX := Lib.hid (show RowAt 24 bx [.slice ao p.length co] w from hX)
    have YY := Lib.hid (show RowAt 47 bz [.slice A3 s.frames.length d3, .int .i64 s.fuel, .slice Ao3 s.out.length do3, .int .i64 s.done, .int .i64 s.value] w from hY)
    have B4 := Lib.hid hJ.below
    have HD3 := Lib.hid hd3
    clear hr hJ hO hO2 hX hY g18 g20 HC HD HALL hd3
    simp only [Act.put, List.setIfInBounds_toArray, List.set_cons_zero, List.set_cons_succ]
    have hna := RA.out.1
    have HL := Lib.hid (HL.out.below B4.out)
    have RP := Lib.hid (RP.out.below B4.out)
    have RS := Lib.hid (RS.out.below B4.out)
    have RA := Lib.hid (RA.out.below B4.out)
    have PP := Lib.hid (PP.out.below B4.out)
    have PS := Lib.hid (PS.out.below B4.out)
    have BB := Lib.hid (below_trans BB.out B4.out)
    clear B4
    have HL4 := HL
    have RP4 := RP
    have RS4 := RS
    have RA4 := RA
    have PP4 := PP
    have PS4 := PS
    have RX4 := RX
    have RY4 := RY
    have XX4 := XX
    have YY4 := YY
    have BB4 := BB
    have B4 := Lib.hid (Below.refl w.heap.size w)
    obtain ⟨ra, hra⟩ : ∃ r, evalR p args fuel = r := ⟨_, rfl⟩
    obtain ⟨ea, hea⟩ : ∃ r, evalC p args fuel = r := ⟨_, rfl⟩
    obtain ⟨rc, hrc⟩ : ∃ r, goR p s = r := ⟨_, rfl⟩
    obtain ⟨ec, hec⟩ : ∃ r, goC p s = r := ⟨_, rfl⟩
    have HEQ := Lib.hid (And.intro hra (And.intro hea (And.intro hrc hec)))
    clear hra hea hrc hec
    have H := eval_any p ao D co cap args fuel w HL.out RX.out RA.out
    rw [HEQ.out.1, HEQ.out.2.1] at H
    replace H := Lib.hid H
    have x0 := XX.out.cell (k := 0) (by simp)
    simp only [List.getElem_cons_zero] at x0
    go_wp2_with fail
    (with_reducible refine H.out.mono ?_)
    rintro e w5 ⟨ov, rfl, hrow, hB⟩
    obtain ⟨O1, o1, ev, _, _⟩ := hrow.shape
    subst ev
    simp only [resC]
    have LO1 := Lib.hid (show ∀ b, ob (.slice O1 ra.out.length o1) = some b → w.heap.size ≤ b ∧ b < w5.heap.size from fun b hb => hrow.in_ b hb)
    have SZ1 := Lib.hid hB.size
    clear H x0
    have HL := Lib.hid (HL.out.below hB)
    have RP := Lib.hid (RP.out.below hB)
    have RS := Lib.hid (RS.out.below hB)
    have RA := Lib.hid (RA.out.below hB)
    have PP := Lib.hid (PP.out.below hB)
    have PS := Lib.hid (PS.out.below hB)
    have RX := Lib.hid (RX.out.below hB)
    have RY := Lib.hid (RY.out.below hB)
    have XX := Lib.hid (XX.out.below hB)
    have YY := Lib.hid (YY.out.below hB)
    have BB := Lib.hid (below_trans BB.out hB)
    have B4 := Lib.hid (below_trans B4.out hB)
    clear hB
    obtain ⟨w6, hw6⟩ : ∃ W', w5.alloc (.cells #[.int .i64 ra.done, .int .i64 ra.value, .slice O1 ra.out.length o1, .int .i64 ra.fuel] 74) = W' := ⟨_, rfl⟩
    have b5 : Below w5.heap.size w5 w6 := hw6 ▸ below_alloc (Below.refl _ _) _
    have T1 := Lib.hid (hw6 ▸ RowAt.new _ _ w5 : RowAt 74 w5.heap.size [.int .i64 ra.done, .int .i64 ra.value, .slice O1 ra.out.length o1, .int .i64 ra.fuel] w6)
    have C1 := Lib.hid (CRow.below hrow b5)
    have Z1 := Lib.hid (show w5.heap.size ≤ w6.heap.size from b5.size)
    have HL := Lib.hid (HL.out.below b5)
    have RP := Lib.hid (RP.out.below b5)
    have RS := Lib.hid (RS.out.below b5)
    have RA := Lib.hid (RA.out.below b5)
    have PP := Lib.hid (PP.out.below b5)
    have PS := Lib.hid (PS.out.below b5)
    have RX := Lib.hid (RX.out.below b5)
    have RY := Lib.hid (RY.out.below b5)
    have XX := Lib.hid (XX.out.below b5)
    have YY := Lib.hid (YY.out.below b5)
    have BB := Lib.hid (below_trans BB.out b5)
    have B4 := Lib.hid (below_trans B4.out b5)
    clear b5 hrow
    have H := reval_any p A D c cap args fuel w6 RP.out RA.out
    rw [HEQ.out.1, HEQ.out.2.1] at H
    replace H := Lib.hid H
    have x0 := PP.out.cell (k := 0) (by simp)
    simp only [List.getElem_cons_zero] at x0
    go_wp2_with fail
    (with_reducible refine H.out.mono ?_)
    rintro e w7 ⟨ov, rfl, hrow, hB⟩
    obtain ⟨O2, o2, ev, _, _⟩ := hrow.shape
    subst ev
    simp only [resC]
    have LO2 := Lib.hid (show ∀ b, ob (.slice O2 ra.out.length o2) = some b → w6.heap.size ≤ b ∧ b < w7.heap.size from fun b hb => hrow.in_ b hb)
    have SZ2 := Lib.hid hB.size
    clear H x0
    have HL := Lib.hid (HL.out.below hB)
    have RP := Lib.hid (RP.out.below hB)
    have RS := Lib.hid (RS.out.below hB)
    have RA := Lib.hid (RA.out.below hB)
    have PP := Lib.hid (PP.out.below hB)
    have PS := Lib.hid (PS.out.below hB)
    have RX := Lib.hid (RX.out.below hB)
    have RY := Lib.hid (RY.out.below hB)
    have XX := Lib.hid (XX.out.below hB)
    have YY := Lib.hid (YY.out.below hB)
    have T1 := Lib.hid (T1.out.below hB)
    have C1 := Lib.hid (C1.out.below hB)
    have BB := Lib.hid (below_trans BB.out hB)
    have B4 := Lib.hid (below_trans B4.out hB)
    clear hB
    obtain ⟨w8, hw8⟩ : ∃ W', w7.alloc (.cells #[.int .i64 ra.done, .int .i64 ra.value, .slice O2 ra.out.length o2, .int .i64 ra.fuel] 74) = W' := ⟨_, rfl⟩
    have b5 : Below w7.heap.size w7 w8 := hw8 ▸ below_alloc (Below.refl _ _) _
    have T2 := Lib.hid (hw8 ▸ RowAt.new _ _ w7 : RowAt 74 w7.heap.size [.int .i64 ra.done, .int .i64 ra.value, .slice O2 ra.out.length o2, .int .i64 ra.fuel] w8)
    have C2 := Lib.hid (CRow.below hrow b5)
    have Z2 := Lib.hid (show w7.heap.size ≤ w8.heap.size from b5.size)
    have HL := Lib.hid (HL.out.below b5)
    have RP := Lib.hid (RP.out.below b5)
    have RS := Lib.hid (RS.out.below b5)
    have RA := Lib.hid (RA.out.below b5)
    have PP := Lib.hid (PP.out.below b5)
    have PS := Lib.hid (PS.out.below b5)
    have RX := Lib.hid (RX.out.below b5)
    have RY := Lib.hid (RY.out.below b5)
    have XX := Lib.hid (XX.out.below b5)
    have YY := Lib.hid (YY.out.below b5)
    have T1 := Lib.hid (T1.out.below b5)
    have C1 := Lib.hid (C1.out.below b5)
    have BB := Lib.hid (below_trans BB.out b5)
    have B4 := Lib.hid (below_trans B4.out b5)
    clear b5 hrow
    have H := go_any p ao A3 Ao3 co d3 do3 s w8 HL.out RX.out RY.out HD3.out
    unfold sttV at H
    rw [HEQ.out.2.2.1, HEQ.out.2.2.2] at H
    replace H := Lib.hid H
    have x0 := XX.out.cell (k := 0) (by simp)
    simp only [List.getElem_cons_zero] at x0
    obtain ⟨y0, y1, y2, y3, y4⟩ := five YY.out
    go_wp2_with fail
    (with_reducible refine H.out.mono ?_)
    rintro e w9 ⟨ov, rfl, hrow, hB⟩
    obtain ⟨O3, o3, ev, _, _⟩ := hrow.shape
    subst ev
    simp only [resC]
    have LO3 := Lib.hid (show ∀ b, ob (.slice O3 rc.out.length o3) = some b → w8.heap.size ≤ b ∧ b < w9.heap.size from fun b hb => hrow.in_ b hb)
    have SZ3 := Lib.hid hB.size
    clear H x0 y0 y1 y2 y3 y4
    have HL := Lib.hid (HL.out.below hB)
    have RP := Lib.hid (RP.out.below hB)
    have RS := Lib.hid (RS.out.below hB)
    have RA := Lib.hid (RA.out.below hB)
    have PP := Lib.hid (PP.out.below hB)
    have PS := Lib.hid (PS.out.below hB)
    have RX := Lib.hid (RX.out.below hB)
    have RY := Lib.hid (RY.out.below hB)
    have XX := Lib.hid (XX.out.below hB)
    have YY := Lib.hid (YY.out.below hB)
    have T1 := Lib.hid (T1.out.below hB)
    have C1 := Lib.hid (C1.out.below hB)
    have T2 := Lib.hid (T2.out.below hB)
    have C2 := Lib.hid (C2.out.below hB)
    have BB := Lib.hid (below_trans BB.out hB)
    have B4 := Lib.hid (below_trans B4.out hB)
    clear hB
    obtain ⟨w10, hw10⟩ : ∃ W', w9.alloc (.cells #[.int .i64 rc.done, .int .i64 rc.value, .slice O3 rc.out.length o3, .int .i64 rc.fuel] 74) = W' := ⟨_, rfl⟩
    have b5 : Below w9.heap.size w9 w10 := hw10 ▸ below_alloc (Below.refl _ _) _
    have T3 := Lib.hid (hw10 ▸ RowAt.new _ _ w9 : RowAt 74 w9.heap.size [.int .i64 rc.done, .int .i64 rc.value, .slice O3 rc.out.length o3, .int .i64 rc.fuel] w10)
    have C3 := Lib.hid (CRow.below hrow b5)
    have Z3 := Lib.hid (show w9.heap.size ≤ w10.heap.size from b5.size)
    have HL := Lib.hid (HL.out.below b5)
    have RP := Lib.hid (RP.out.below b5)
    have RS := Lib.hid (RS.out.below b5)
    have RA := Lib.hid (RA.out.below b5)
    have PP := Lib.hid (PP.out.below b5)
    have PS := Lib.hid (PS.out.below b5)
    have RX := Lib.hid (RX.out.below b5)
    have RY := Lib.hid (RY.out.below b5)
    have XX := Lib.hid (XX.out.below b5)
    have YY := Lib.hid (YY.out.below b5)
    have T1 := Lib.hid (T1.out.below b5)
    have C1 := Lib.hid (C1.out.below b5)
    have T2 := Lib.hid (T2.out.below b5)
    have C2 := Lib.hid (C2.out.below b5)
    have BB := Lib.hid (below_trans BB.out b5)
    have B4 := Lib.hid (below_trans B4.out b5)
    clear b5 hrow
    have H := rgo_any p A C Co c k ko s w10 RP.out RS.out
    unfold sttV at H
    rw [HEQ.out.2.2.1, HEQ.out.2.2.2] at H
    replace H := Lib.hid H
    have x0 := PP.out.cell (k := 0) (by simp)
    simp only [List.getElem_cons_zero] at x0
    obtain ⟨y0, y1, y2, y3, y4⟩ := five PS.out
    go_wp2_with fail
    (with_reducible refine H.out.mono ?_)
    rintro e w11 ⟨ov, rfl, hrow, hB⟩
    obtain ⟨O4, o4, ev, _, _⟩ := hrow.shape
    subst ev
    simp only [resC]
    have LO4 := Lib.hid (show ∀ b, ob (.slice O4 rc.out.length o4) = some b → w10.heap.size ≤ b ∧ b < w11.heap.size from fun b hb => hrow.in_ b hb)
    have SZ4 := Lib.hid hB.size
    clear H x0 y0 y1 y2 y3 y4
    have HL := Lib.hid (HL.out.below hB)
    have RP := Lib.hid (RP.out.below hB)
    have RS := Lib.hid (RS.out.below hB)
    have RA := Lib.hid (RA.out.below hB)
    have PP := Lib.hid (PP.out.below hB)
    have PS := Lib.hid (PS.out.below hB)
    have RX := Lib.hid (RX.out.below hB)
    have RY := Lib.hid (RY.out.below hB)
    have XX := Lib.hid (XX.out.below hB)
    have YY := Lib.hid (YY.out.below hB)
    have T1 := Lib.hid (T1.out.below hB)
    have C1 := Lib.hid (C1.out.below hB)
    have T2 := Lib.hid (T2.out.below hB)
    have C2 := Lib.hid (C2.out.below hB)
    have T3 := Lib.hid (T3.out.below hB)
    have C3 := Lib.hid (C3.out.below hB)
    have BB := Lib.hid (below_trans BB.out hB)
    have B4 := Lib.hid (below_trans B4.out hB)
    clear hB
    obtain ⟨w12, hw12⟩ : ∃ W', w11.alloc (.cells #[.int .i64 rc.done, .int .i64 rc.value, .slice O4 rc.out.length o4, .int .i64 rc.fuel] 74) = W' := ⟨_, rfl⟩
    have b5 : Below w11.heap.size w11 w12 := hw12 ▸ below_alloc (Below.refl _ _) _
    have T4 := Lib.hid (hw12 ▸ RowAt.new _ _ w11 : RowAt 74 w11.heap.size [.int .i64 rc.done, .int .i64 rc.value, .slice O4 rc.out.length o4, .int .i64 rc.fuel] w12)
    have C4 := Lib.hid (CRow.below hrow b5)
    have Z4 := Lib.hid (show w11.heap.size ≤ w12.heap.size from b5.size)
    have HL := Lib.hid (HL.out.below b5)
    have RP := Lib.hid (RP.out.below b5)
    have RS := Lib.hid (RS.out.below b5)
    have RA := Lib.hid (RA.out.below b5)
    have PP := Lib.hid (PP.out.below b5)
    have PS := Lib.hid (PS.out.below b5)
    have RX := Lib.hid (RX.out.below b5)
    have RY := Lib.hid (RY.out.below b5)
    have XX := Lib.hid (XX.out.below b5)
    have YY := Lib.hid (YY.out.below b5)
    have T1 := Lib.hid (T1.out.below b5)
    have C1 := Lib.hid (C1.out.below b5)
    have T2 := Lib.hid (T2.out.below b5)
    have C2 := Lib.hid (C2.out.below b5)
    have T3 := Lib.hid (T3.out.below b5)
    have C3 := Lib.hid (C3.out.below b5)
    have BB := Lib.hid (below_trans BB.out b5)
    have B4 := Lib.hid (below_trans B4.out b5)
    clear b5 hrow
    have H := Lib.hid (same_n (x := ra) (y := ra) (c := o1) (d := o2) (b := true) (CRow.ints C1.out) (CRow.ints C2.out) rfl rfl (by simp))
    obtain ⟨f0, f1, f2, f3⟩ := fourR T1.out
    obtain ⟨g0, g1, g2, g3⟩ := fourR T2.out
    have HNUM := Lib.hid (fun (n : Int) (W : World) => numL_any n W)
    have dn : (ea != ea) = false := by simp
    have dm : (ec != ec) = false := by simp
    clear HEQ
    go_wp2_with fail
    (with_reducible refine H.out.mono ?_)
    rintro e w13 ⟨rfl, hB⟩
    clear hw6 hw8 hw10 hw12
    clear H f0 f1 f2 f3 g0 g1 g2 g3
    have T1 := Lib.hid (T1.out.below hB)
    have T3 := Lib.hid (T3.out.below hB)
    have T4 := Lib.hid (T4.out.below hB)
    have C1 := Lib.hid (C1.out.below hB)
    have C3 := Lib.hid (C3.out.below hB)
    have C4 := Lib.hid (C4.out.below hB)
    have B4 := Lib.hid (below_trans B4.out hB)
    clear hB
    have H := Lib.hid (same_n (x := rc) (y := rc) (c := o3) (d := o4) (b := true) (CRow.ints C3.out) (CRow.ints C4.out) rfl rfl (by simp))
    obtain ⟨f0, f1, f2, f3⟩ := fourR T3.out
    obtain ⟨g0, g1, g2, g3⟩ := fourR T4.out
    go_wp2_with (first | (go_at_call 19; (with_reducible refine (HNUM.out _ _).mono ?_); rintro e wn ⟨rfl, rfl⟩) | fail)
    (with_reducible refine H.out.mono ?_)
    rintro e w14 ⟨rfl, hB⟩
    clear H f0 f1 f2 f3 g0 g1 g2 g3
    have T1 := Lib.hid (T1.out.below hB)
    have T3 := Lib.hid (T3.out.below hB)
    have C1 := Lib.hid (C1.out.below hB)
    have C3 := Lib.hid (C3.out.below hB)
    have B4 := Lib.hid (below_trans B4.out hB)
    clear hB
    have H := Lib.hid (spoilC_any O1 o1 w.heap.size ra.out w14 C1.out)
    obtain ⟨f0, f1, f2, f3⟩ := fourR T1.out
    go_wp2_with (first | (go_at_call 19; (with_reducible refine (HNUM.out _ _).mono ?_); rintro e wn ⟨rfl, rfl⟩) | fail)
    (with_reducible refine H.out.mono ?_)
    rintro e w15 ⟨rfl, _, hch⟩
    clear H f0 f1 f2 f3
    have B4 := Lib.hid (Chg.below B4.out hch (fun b e => (LO1.out b e).1))
    have T3 := Lib.hid (T3.out.chg hch (fun e => by have := (LO1.out _ e).2; have := SZ2.out; have := SZ3.out; have := Z1.out; have := Z2.out; omega))
    have C3 := Lib.hid (CRow.chg C3.out hch (fun b e e2 => by have := (LO1.out _ e2).2; have := (LO3.out _ e).1; have := SZ2.out; have := Z1.out; have := Z2.out; omega))
    clear hch
    have H := Lib.hid (spoilC_any O3 o3 w8.heap.size rc.out w15 C3.out)
    obtain ⟨f0, f1, f2, f3⟩ := fourR T3.out
    go_wp2_with (first | (go_at_call 19; (with_reducible refine (HNUM.out _ _).mono ?_); rintro e wn ⟨rfl, rfl⟩) | fail)
    (with_reducible refine H.out.mono ?_)
    rintro e w16 ⟨rfl, _, hch⟩
    clear H f0 f1 f2 f3
    have b9 := Chg.below B4.out hch (fun b e => by have := (LO3.out _ e).1; have := SZ1.out; have := SZ2.out; have := Z1.out; have := Z2.out; omega)
    clear hch HNUM dn dm
    have HL := Lib.hid (HL4.out.below b9)
    have RP := Lib.hid (RP4.out.below b9)
    have RS := Lib.hid (RS4.out.below b9)
    have RA := Lib.hid (RA4.out.below b9)
    have PP := Lib.hid (PP4.out.below b9)
    have PS := Lib.hid (PS4.out.below b9)
    have RX := Lib.hid (RX4.out.below b9)
    have RY := Lib.hid (RY4.out.below b9)
    have XX := Lib.hid (XX4.out.below b9)
    have YY := Lib.hid (YY4.out.below b9)
    have BB := Lib.hid (below_trans BB4.out b9)
    clear b9
    have H := Lib.hid (sameProgram_any ao A co c p p w16 RX.out RP.out)
    rw [decide_eq_true rfl] at H
    have y0 := XX.out.cell (k := 0) (by simp)
    have y1 := PP.out.cell (k := 0) (by simp)
    simp only [List.getElem_cons_zero] at y0 y1
    go_wp2_with fail
    (with_reducible refine H.out.mono ?_)
    rintro e w17 ⟨rfl, hB⟩
    clear H y0 y1
    have HL := Lib.hid (HL.out.below hB)
    have RP := Lib.hid (RP.out.below hB)
    have RS := Lib.hid (RS.out.below hB)
    have RA := Lib.hid (RA.out.below hB)
    have PP := Lib.hid (PP.out.below hB)
    have PS := Lib.hid (PS.out.below hB)
    have RX := Lib.hid (RX.out.below hB)
    have RY := Lib.hid (RY.out.below hB)
    have XX := Lib.hid (XX.out.below hB)
    have YY := Lib.hid (YY.out.below hB)
    have BB := Lib.hid (below_trans BB.out hB)
    clear hB
    have H := sameState_any s s A3 Ao3 C Co d3 do3 k ko w17 RY.out RS.out
    rw [decide_eq_true rfl] at H
    unfold sttV at H
    replace H := Lib.hid H
    obtain ⟨y0, y1, y2, y3, y4⟩ := five YY.out
    obtain ⟨z0, z1, z2, z3, z4⟩ := five PS.out
    go_wp2_with fail
    (with_reducible refine H.out.mono ?_)
    rintro e w18 ⟨rfl, hB⟩
    clear H y0 y1 y2 y3 y4 z0 z1 z2 z3 z4
    have HL := Lib.hid (HL.out.below hB)
    have BB := Lib.hid (below_trans BB.out hB)
    clear hB
    have H := Lib.hid (awake8_any w18 HL.out)
    go_wp2_with fail
    (with_reducible refine H.out.mono ?_)
    rintro e w19 ⟨rfl, hB⟩
    have BB := Lib.hid (below_trans BB.out hB)
    clear H hB
    go_wp2_with fail
    go_ret
    exact ⟨rfl, BB.out⟩
  · rintro l a' w i ⟨x18, x19, x20, x21, x11, x12, b0, b1, b2, b3, b4, b5, b6, b7, l1, h1, l2, h2, bx, bz, rfl, rfl, g18, g20, hJ⟩ hi
    obtain ⟨hu, o, ho, ha⟩ := mem_ready.1 hi
    clear hi
    match i, hu, ho with
    | 0, hu, ho =>
      cases ho
      obtain ⟨c0, s0, s1, s2, s3, s4⟩ := HALL.out w hJ.below
      simp only [Act.put, List.setIfInBounds_toArray, List.set_cons_zero, List.set_cons_succ]
      refine wpOp_step rfl (fun K hK => ?_)
      go_simp
      refine hK _ _ ?_
      exact ⟨.agg #[.slice A p.length c], x19, x20, x21, x11, x12, true, b1, b2, b3, b4, b5, b6, b7, l1, h1, l2, h2, bx, bz, rfl, rfl, (fun _ => rfl), g20, hJ⟩
    | 1, hu, ho =>
      cases ho
      obtain rfl : b0 = true := by simpa using ha ⟨0, .data⟩ (by simp) rfl
      obtain rfl : b1 = false := by simpa using hu
      obtain rfl := g18 rfl
      simp only [Act.put, List.setIfInBounds_toArray, List.set_cons_zero, List.set_cons_succ]
      refine wpOp_step rfl (fun K hK => ?_)
      go_simp
      (with_reducible refine (HC.out w hJ.below).mono ?_)
      rintro e w' ⟨ao, co, rfl, hO, hB⟩
      go_simp
      refine hK _ _ ?_
      exact ⟨_, .agg #[.slice ao p.length co], x20, x21, x11, x12, true, true, b2, b3, b4, b5, b6, b7, w.heap.size, w'.heap.size, l2, h2, bx, bz, rfl, rfl, (fun _ => rfl), g20, hJ.call1 hB (fun T w'' hk hd => ⟨ao, co, _, rfl, hO.stays T w'' hk hd⟩)⟩
    | 2, hu, ho =>
      cases ho
      obtain ⟨c0, s0, s1, s2, s3, s4⟩ := HALL.out w hJ.below
      simp only [Act.put, List.setIfInBounds_toArray, List.set_cons_zero, List.set_cons_succ]
      refine wpOp_step rfl (fun K hK => ?_)
      go_simp
      refine hK _ _ ?_
      exact ⟨x18, x19, .agg #[.slice C s.frames.length k, .int .i64 s.fuel, .slice Co s.out.length ko, .int .i64 s.done, .int .i64 s.value], x21, x11, x12, b0, b1, true, b3, b4, b5, b6, b7, l1, h1, l2, h2, bx, bz, rfl, rfl, g18, (fun _ => rfl), hJ⟩
    | 3, hu, ho =>
      cases ho
      obtain rfl : b2 = true := by simpa using ha ⟨2, .data⟩ (by simp) rfl
      obtain rfl : b3 = false := by simpa using hu
      obtain rfl := g20 rfl
      simp only [Act.put, List.setIfInBounds_toArray, List.set_cons_zero, List.set_cons_succ]
      refine wpOp_step rfl (fun K hK => ?_)
      go_simp
      (with_reducible refine (HD.out w hJ.below).mono ?_)
      rintro e w' ⟨fv, ov, vss, rfl, hO, hB⟩
      obtain ⟨A3, d3, Ao3, do3, rfl, rfl, hd3, -⟩ := hO.reads
      unfold sttV
      go_simp
      refine hK _ _ ?_
      exact ⟨x18, x19, _, .agg #[.slice A3 s.frames.length d3, .int .i64 s.fuel, .slice Ao3 s.out.length do3, .int .i64 s.done, .int .i64 s.value], x11, x12, b0, b1, true, true, b4, b5, b6, b7, l1, h1, w.heap.size, w'.heap.size, bx, bz, rfl, rfl, g18, (fun _ => rfl), hJ.call2 hB (fun T w'' hk hd => ⟨A3, d3, Ao3, do3, vss, _, rfl, hd3, hO.stays T w'' hk hd⟩)⟩
    | 4, hu, ho =>
      cases ho
      obtain rfl : b4 = false := by simpa using hu
      simp only [Act.put, List.setIfInBounds_toArray, List.set_cons_zero, List.set_cons_succ]
      refine wpOp_step rfl (fun K hK => ?_)
      go_simp
      refine hK _ _ ?_
      exact ⟨x18, x19, x20, x21, .pointer (some ⟨w.heap.size, 0, none⟩), x12, b0, b1, b2, b3, true, b5, b6, b7, l1, h1, l2, h2, w.heap.size, bz, rfl, rfl, g18, g20, hJ.newX⟩
    | 5, hu, ho =>
      cases ho
      obtain rfl : b5 = false := by simpa using hu
      simp only [Act.put, List.setIfInBounds_toArray, List.set_cons_zero, List.set_cons_succ]
      refine wpOp_step rfl (fun K hK => ?_)
      go_simp
      refine hK _ _ ?_
      exact ⟨x18, x19, x20, x21, x11, .pointer (some ⟨w.heap.size, 0, none⟩), b0, b1, b2, b3, b4, true, b6, b7, l1, h1, l2, h2, bx, w.heap.size, rfl, rfl, g18, g20, hJ.newY⟩
    | 6, hu, ho =>
      cases ho
      obtain rfl : b4 = true := by simpa using ha ⟨4, .data⟩ (by simp) rfl
      obtain rfl : b1 = true := by simpa using ha ⟨1, .data⟩ (by simp) rfl
      obtain rfl : b3 = true := by simpa using ha ⟨3, .chain⟩ (by simp) rfl
      obtain rfl : b5 = true := by simpa using ha ⟨5, .phase⟩ (by simp) rfl
      obtain rfl : b6 = false := by simpa using hu
      obtain ⟨ao, co, base, rfl, hO⟩ := (hJ.got1 rfl).2.2.now
      obtain ⟨rfl, hge, hlt, hrow⟩ := hJ.isX rfl
      have hrow : RowAt 24 bx [.slice none 0 0] w := hrow
      have q0 := hrow.cell (k := 0) (by simp)
      have f0 := hrow.free 0
      simp only [List.getElem_cons_zero] at q0
      simp only [Act.put, List.setIfInBounds_toArray, List.set_cons_zero, List.set_cons_succ]
      refine wpOp_step rfl (fun K hK => ?_)
      go_simp
      have hk := (Chg.refl (fun b => b = bx) w).put (a := ⟨bx, 0, none⟩) rfl (.slice ao p.length co)
      have hr2 : RowAt 24 bx (aggC (.agg #[.slice ao p.length co])) (w.setCell ⟨bx, 0, none⟩ (.slice ao p.length co)) := hrow.put 0 (.slice ao p.length co)
      refine hK _ _ ?_
      exact ⟨x18, _, x20, x21, _, x12, b0, true, b2, true, true, true, true, b7, l1, h1, l2, h2, bx, bz, rfl, rfl, g18, g20, hJ.putX hk hr2⟩
    | 7, hu, ho =>
      cases ho
      obtain rfl : b4 = true := by simpa using ha ⟨4, .phase⟩ (by simp) rfl
      obtain rfl : b1 = true := by simpa using ha ⟨1, .phase⟩ (by simp) rfl
      obtain rfl : b3 = true := by simpa using ha ⟨3, .data⟩ (by simp) rfl
      obtain rfl : b5 = true := by simpa using ha ⟨5, .data⟩ (by simp) rfl
      obtain rfl : b7 = false := by simpa using hu
      obtain ⟨A3, d3, Ao3, do3, vss, base, rfl, hd3, hO⟩ := (hJ.got2 rfl).2.2.now
      obtain ⟨rfl, hge, hlt, hrow⟩ := hJ.isY rfl
      have hrow : RowAt 47 bz [.slice none 0 0, .int .i64 0, .slice none 0 0, .int .i64 0, .int .i64 0] w := hrow
      obtain ⟨q0, q1, q2, q3, q4⟩ := five hrow
      have f0 := hrow.free 0
      have f1 := hrow.free 1
      have f2 := hrow.free 2
      have f3 := hrow.free 3
      have f4 := hrow.free 4
      simp only [Act.put, List.setIfInBounds_toArray, List.set_cons_zero, List.set_cons_succ]
      refine wpOp_step rfl (fun K hK => ?_)
      go_simp
      have hk := ((((((Chg.refl (fun b => b = bz) w).put (a := ⟨bz, 0, none⟩) rfl (.slice A3 s.frames.length d3)).put (a := ⟨bz, 1, none⟩) rfl (.int .i64 s.fuel)).put (a := ⟨bz, 2, none⟩) rfl (.slice Ao3 s.out.length do3)).put (a := ⟨bz, 3, none⟩) rfl (.int .i64 s.done)).put (a := ⟨bz, 4, none⟩) rfl (.int .i64 s.value))
      have hr2 : RowAt 47 bz (aggC (.agg #[.slice A3 s.frames.length d3, .int .i64 s.fuel, .slice Ao3 s.out.length do3, .int .i64 s.done, .int .i64 s.value])) (((((w.setCell ⟨bz, 0, none⟩ (.slice A3 s.frames.length d3)).setCell ⟨bz, 1, none⟩ (.int .i64 s.fuel)).setCell ⟨bz, 2, none⟩ (.slice Ao3 s.out.length do3)).setCell ⟨bz, 3, none⟩ (.int .i64 s.done)).setCell ⟨bz, 4, none⟩ (.int .i64 s.value)) := (((((hrow.put 0 (.slice A3 s.frames.length d3)).put 1 (.int .i64 s.fuel)).put 2 (.slice Ao3 s.out.length do3)).put 3 (.int .i64 s.done)).put 4 (.int .i64 s.value))
      refine hK _ _ ?_
      exact ⟨x18, x19, x20, _, x11, _, b0, true, b2, true, true, true, b6, true, l1, h1, l2, h2, bx, bz, rfl, rfl, g18, g20, hJ.putY hk hr2⟩
    | n + 8, hu, ho => simp at ho
end Go.Proofs.YtpfgklkdldkajaaGreatDoor
