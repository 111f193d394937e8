/- The law Frames, walked. Conditions: the program, the frame, the state, the args lie in memory; errors.errorType is laid. -/
import Derived.Test.YtdjlaglilokjeaaGreatDoorAwake6
import Derived.Test.YtdjlaglilokjeaaGreatDoorFrBase
import Derived.Test.YtdjlaglilokjeaaGreatDoorRefState
namespace Go.Proofs.YtdjlaglilokjeaaGreatDoor
open Go.RowKit

/-- The cells of a struct's value. -/
def aggC : Value → List Value
  | .agg xs => xs.toList
  | _ => []
def IsProg (p : List Fn) (v : Value) (w : World) : Prop := ∃ ao co base, v = .agg #[.slice ao p.length co] ∧ OwnF w base (.slice ao p.length co) p
def IsState (s : Stt) (v : Value) (w : World) : Prop := ∃ A c Ao co vss base, v = .agg #[.slice A s.frames.length c, .int .i64 s.fuel, .slice Ao s.out.length co, .int .i64 s.done, .int .i64 s.value] ∧ s.frames.length ≤ c ∧ OwnS w base s (.slice A s.frames.length c) (.slice Ao s.out.length co) vss
set_option maxRecDepth 100000 in
set_option maxHeartbeats 8000000 in
theorem frames_yes (A : Option Addr) (c : Nat) (p : List Fn) (B : Option Addr) (d : Nat) (B2 : Option Addr) (d2 : Nat) (f : Frm) (C : Option Addr) (k : Nat) (Co : Option Addr) (ko : Nat) (s : Stt) (D : Option Addr) (cap : Nat) (args : List Int) (fuel : Int) (W : World) (hl : Laid W)
    (hr : ReadsF W A p) (hz : Fits p) (hf : ReadsI W B f.locals ∧ ReadsI W B2 f.stack) (_hzf : True) (hs : ReadsS W s C Co ∧ s.frames.length ≤ k) (hzs : FitS s) (ha : ReadsI W D args ∧ args.length * 8 ≤ 140737488351232) :
    Calls Tryz.prog 3 #[.agg #[.slice A p.length c], frV f (.slice B f.locals.length d) (.slice B2 f.stack.length d2), sttV s (.slice C s.frames.length k) (.slice Co s.out.length ko), .slice D args.length cap, .int .i64 fuel] W (Ret (.bool true) W) := by
  have HL := Lib.hid hl
  have RP := Lib.hid hr
  have RF := Lib.hid hf.1
  have RF2 := Lib.hid hf.2
  have RS := Lib.hid hs.1
  have RA := Lib.hid ha.1
  have HZ := Lib.hid hz
  have HZS := Lib.hid hzs
  have HZA := Lib.hid ha.2
  have HK := Lib.hid hs.2
  clear hl hr hf hs ha hz hzs
  have hb : Below W.heap.size W (((W.alloc (.cells #[.slice A p.length c] 24)).alloc (.cells #[.int .i64 f.fn, .int .i64 f.pc, .slice B f.locals.length d, .slice B2 f.stack.length d2] 27)).alloc (.cells #[.slice C s.frames.length k, .int .i64 s.fuel, .slice Co s.out.length ko, .int .i64 s.done, .int .i64 s.value] 30)) :=
    allocsL_below [.cells #[.slice A p.length c] 24, .cells #[.int .i64 f.fn, .int .i64 f.pc, .slice B f.locals.length d, .slice B2 f.stack.length d2] 27, .cells #[.slice C s.frames.length k, .int .i64 s.fuel, .slice Co s.out.length ko, .int .i64 s.done, .int .i64 s.value] 30] W
  have PP := Lib.hid (show RowAt 24 W.heap.size [.slice A p.length c] (((W.alloc (.cells #[.slice A p.length c] 24)).alloc (.cells #[.int .i64 f.fn, .int .i64 f.pc, .slice B f.locals.length d, .slice B2 f.stack.length d2] 27)).alloc (.cells #[.slice C s.frames.length k, .int .i64 s.fuel, .slice Co s.out.length ko, .int .i64 s.done, .int .i64 s.value] 30)) from rowL (w := W) (os := [.cells #[.slice A p.length c] 24, .cells #[.int .i64 f.fn, .int .i64 f.pc, .slice B f.locals.length d, .slice B2 f.stack.length d2] 27, .cells #[.slice C s.frames.length k, .int .i64 s.fuel, .slice Co s.out.length ko, .int .i64 s.done, .int .i64 s.value] 30]) (i := 0) (by simp) rfl)
  have PF := Lib.hid (show RowAt 27 (W.heap.size + 1) [.int .i64 f.fn, .int .i64 f.pc, .slice B f.locals.length d, .slice B2 f.stack.length d2] (((W.alloc (.cells #[.slice A p.length c] 24)).alloc (.cells #[.int .i64 f.fn, .int .i64 f.pc, .slice B f.locals.length d, .slice B2 f.stack.length d2] 27)).alloc (.cells #[.slice C s.frames.length k, .int .i64 s.fuel, .slice Co s.out.length ko, .int .i64 s.done, .int .i64 s.value] 30)) from rowL (w := W) (os := [.cells #[.slice A p.length c] 24, .cells #[.int .i64 f.fn, .int .i64 f.pc, .slice B f.locals.length d, .slice B2 f.stack.length d2] 27, .cells #[.slice C s.frames.length k, .int .i64 s.fuel, .slice Co s.out.length ko, .int .i64 s.done, .int .i64 s.value] 30]) (i := 1) (by simp) rfl)
  have PS := Lib.hid (show RowAt 30 (W.heap.size + 1 + 1) [.slice C s.frames.length k, .int .i64 s.fuel, .slice Co s.out.length ko, .int .i64 s.done, .int .i64 s.value] (((W.alloc (.cells #[.slice A p.length c] 24)).alloc (.cells #[.int .i64 f.fn, .int .i64 f.pc, .slice B f.locals.length d, .slice B2 f.stack.length d2] 27)).alloc (.cells #[.slice C s.frames.length k, .int .i64 s.fuel, .slice Co s.out.length ko, .int .i64 s.done, .int .i64 s.value] 30)) from rowL (w := W) (os := [.cells #[.slice A p.length c] 24, .cells #[.int .i64 f.fn, .int .i64 f.pc, .slice B f.locals.length d, .slice B2 f.stack.length d2] 27, .cells #[.slice C s.frames.length k, .int .i64 s.fuel, .slice Co s.out.length ko, .int .i64 s.done, .int .i64 s.value] 30]) (i := 2) (by simp) rfl)
  have BB := Lib.hid hb
  have HL := Lib.hid (HL.out.below hb)
  have RP := Lib.hid (RP.out.below hb)
  have RF := Lib.hid (RF.out.below hb)
  have RF2 := Lib.hid (RF2.out.below hb)
  have RS := Lib.hid (RS.out.below hb)
  have RA := Lib.hid (RA.out.below hb)
  clear hb
  unfold frV sttV
  have c0 := PP.out.cell (k := 0) (by simp)
  obtain ⟨s0, s1, s2, s3, s4⟩ := five PS.out
  simp only [List.getElem_cons_zero] at c0
  go_enter Tryz.func3, Tryz.ntmps3
  go_upto_region 1 with fail
  generalize hw3 : (((W.alloc (.cells #[.slice A p.length c] 24)).alloc (.cells #[.int .i64 f.fn, .int .i64 f.pc, .slice B f.locals.length d, .slice B2 f.stack.length d2] 27)).alloc (.cells #[.slice C s.frames.length k, .int .i64 s.fuel, .slice Co s.out.length ko, .int .i64 s.done, .int .i64 s.value] 30)) = w3 at *
  clear hw3 c0 s0 s1 s2 s3 s4
  have HALL := Lib.hid (show ∀ W', Below w3.heap.size w3 W' → W'.cell? ⟨W.heap.size, 0, none⟩ = some (.slice A p.length c) ∧ W'.cell? ⟨W.heap.size + 1 + 1, 0, none⟩ = some (.slice C s.frames.length k) ∧ W'.cell? ⟨W.heap.size + 1 + 1, 1, none⟩ = some (.int .i64 s.fuel) ∧ W'.cell? ⟨W.heap.size + 1 + 1, 2, none⟩ = some (.slice Co s.out.length ko) ∧ W'.cell? ⟨W.heap.size + 1 + 1, 3, none⟩ = some (.int .i64 s.done) ∧ W'.cell? ⟨W.heap.size + 1 + 1, 4, none⟩ = some (.int .i64 s.value) from fun W' hb => ⟨(PP.out.below hb).cell (k := 0) (by simp), (PS.out.below hb).cell (k := 0) (by simp), (PS.out.below hb).cell (k := 1) (by simp), (PS.out.below hb).cell (k := 2) (by simp), (PS.out.below hb).cell (k := 3) (by simp), (PS.out.below hb).cell (k := 4) (by simp)⟩)
  have HC := Lib.hid (show ∀ W', Below w3.heap.size w3 W' → Calls Tryz.prog 4 #[.agg #[.slice A p.length c]] W' (ProgE p W') from fun W' hb => copyProgram_any A c p _ (RP.out.below hb) HZ.out)
  have HD := Lib.hid (show ∀ W', Below w3.heap.size w3 W' → Calls Tryz.prog 5 #[.agg #[.slice C s.frames.length k, .int .i64 s.fuel, .slice Co s.out.length ko, .int .i64 s.done, .int .i64 s.value]] W' (CopyE s W') from fun W' hb => copyState_any s C Co k ko _ (RS.out.below hb) HZS.out)
  refine wp_region_inv_of (fun a0 l a' w => ∃ x18 x19 x20 x21 x11 x12 b0 b1 b2 b3 b4 b5 b6 b7 l1 h1 l2 h2 bx bz, l = #[b0, b1, b2, b3, b4, b5, b6, b7] ∧ a' = ((((((a0.put (some 18) x18).put (some 19) x19).put (some 20) x20).put (some 21) x21).put (some 11) x11).put (some 12) x12) ∧ (b0 = true → x18 = .agg #[.slice A p.length c]) ∧ (b2 = true → x20 = .agg #[.slice C s.frames.length k, .int .i64 s.fuel, .slice Co s.out.length ko, .int .i64 s.done, .int .i64 s.value]) ∧
    Two2 w3 24 30 [.slice none 0 0] [.slice none 0 0, .int .i64 0, .slice none 0 0, .int .i64 0, .int .i64 0] aggC aggC (IsProg p) (IsState s) x19 x21 x11 x12 b1 b3 b4 b5 b6 b7 l1 h1 l2 h2 bx bz w) (by kernel_rfl) ?_ ?_ ?_
  · exact ⟨undef, undef, undef, undef, undef, undef, false, false, false, false, false, false, false, false, 0, 0, 0, 0, 0, 0, rfl, rfl, (fun e => by cases e), (fun e => by cases e), Two2.start _ _ _ _ _ _ _ _ _ _ _ _ _ _ (below_drew (Below.refl _ _) 1)⟩
  · rintro l a' w ⟨x18, x19, x20, x21, x11, x12, b0, b1, b2, b3, b4, b5, b6, b7, l1, h1, l2, h2, bx, bz, rfl, rfl, g18, g20, hJ⟩ hr
    obtain rfl : b0 = true := by simpa using all_listed (i := 0) hr rfl (by rfl)
    obtain rfl : b1 = true := by simpa using all_listed (i := 1) hr rfl (by rfl)
    obtain rfl : b2 = true := by simpa using all_listed (i := 2) hr rfl (by rfl)
    obtain rfl : b3 = true := by simpa using all_listed (i := 3) hr rfl (by rfl)
    obtain rfl : b4 = true := by simpa using all_listed (i := 4) hr rfl (by rfl)
    obtain rfl : b5 = true := by simpa using all_listed (i := 5) hr rfl (by rfl)
    obtain rfl : b6 = true := by simpa using all_listed (i := 6) hr rfl (by rfl)
    obtain rfl : b7 = true := by simpa using all_listed (i := 7) hr rfl (by rfl)
    obtain ⟨ao, co, base, rfl, hO⟩ := (hJ.got1 rfl).2.2.now
    obtain ⟨A3, d3, Ao3, do3, vss, base2, rfl, hd3, hO2⟩ := (hJ.got2 rfl).2.2.now
    obtain ⟨rfl, -, -, hX⟩ := hJ.isX rfl
    obtain ⟨rfl, -, -, hY⟩ := hJ.isY rfl
    obtain rfl := g18 rfl
    obtain rfl := g20 rfl
    have RX := Lib.hid hO.reads
    have RY := Lib.hid (show ReadsS w s A3 Ao3 by
      obtain ⟨_, _, _, _, e1, e2, _, hrs⟩ := hO2.reads
      cases e1; cases e2; exact hrs)
    have XX := Lib.hid (show RowAt 24 bx [.slice ao p.length co] w from hX)
    have YY := Lib.hid (show RowAt 30 bz [.slice A3 s.frames.length d3, .int .i64 s.fuel, .slice Ao3 s.out.length do3, .int .i64 s.done, .int .i64 s.value] w from hY)
    have B4 := Lib.hid hJ.below
    clear hr hJ hO hO2 hX hY g18 g20 HC HD HALL
    simp only [Act.put, List.setIfInBounds_toArray, List.set_cons_zero, List.set_cons_succ]
    have HL := Lib.hid (HL.out.below B4.out)
    have RP := Lib.hid (RP.out.below B4.out)
    have RF := Lib.hid (RF.out.below B4.out)
    have RF2 := Lib.hid (RF2.out.below B4.out)
    have RS := Lib.hid (RS.out.below B4.out)
    have RA := Lib.hid (RA.out.below B4.out)
    have PP := Lib.hid (PP.out.below B4.out)
    have PF := Lib.hid (PF.out.below B4.out)
    have PS := Lib.hid (PS.out.below B4.out)
    have BB := Lib.hid (below_trans BB.out B4.out)
    clear B4
    have H := Lib.hid (lendInts_any D cap args w RA.out HZA.out)
    go_wp2_with fail
    (with_reducible refine H.out.mono ?_)
    rintro e w4 ⟨g, off, cap2, rfl, hc1, hc2, hrd, hB⟩
    clear H
    have RL := Lib.hid hrd
    have HC1 := Lib.hid hc1
    have HC2 := Lib.hid hc2
    have HL := Lib.hid (HL.out.below hB)
    have RP := Lib.hid (RP.out.below hB)
    have RF := Lib.hid (RF.out.below hB)
    have RF2 := Lib.hid (RF2.out.below hB)
    have RS := Lib.hid (RS.out.below hB)
    have RA := Lib.hid (RA.out.below hB)
    have PP := Lib.hid (PP.out.below hB)
    have PF := Lib.hid (PF.out.below hB)
    have PS := Lib.hid (PS.out.below hB)
    have RX := Lib.hid (RX.out.below hB)
    have RY := Lib.hid (RY.out.below hB)
    have XX := Lib.hid (XX.out.below hB)
    have YY := Lib.hid (YY.out.below hB)
    have BB := Lib.hid (below_trans BB.out hB)
    clear hB hrd hc1 hc2
    have HL4 := HL
    have RP4 := RP
    have RS4 := RS
    have RA4 := RA
    have PP4 := PP
    have PS4 := PS
    have RX4 := RX
    have RY4 := RY
    have XX4 := XX
    have YY4 := YY
    have RL4 := RL
    have BB4 := BB
    have H := Lib.hid (start_any p ao (some ⟨g, off, none⟩) co cap2 args fuel w4 HL.out RX.out RL.out.prefix)
    obtain ⟨sa, hsa⟩ : ∃ sa, startS p args fuel = sa := ⟨_, rfl⟩
    obtain ⟨ca, hca⟩ : ∃ ca, startC p args fuel = ca := ⟨_, rfl⟩
    rw [hsa, hca] at H
    have x0 := XX.out.cell (k := 0) (by simp)
    simp only [List.getElem_cons_zero] at x0
    go_wp2_with fail
    (with_reducible refine H.out.mono ?_)
    rintro e w5 ⟨fv, ov, vss2, rfl, hos, hB⟩
    clear H x0
    obtain ⟨A5, d5, Ao5, do5, rfl, rfl, hd5, hrs5⟩ := hos.reads
    unfold sttV
    have B45 := Lib.hid hB
    have HL := Lib.hid (HL.out.below hB)
    have RP := Lib.hid (RP.out.below hB)
    have RF := Lib.hid (RF.out.below hB)
    have RF2 := Lib.hid (RF2.out.below hB)
    have RS := Lib.hid (RS.out.below hB)
    have RA := Lib.hid (RA.out.below hB)
    have PP := Lib.hid (PP.out.below hB)
    have PF := Lib.hid (PF.out.below hB)
    have PS := Lib.hid (PS.out.below hB)
    have RX := Lib.hid (RX.out.below hB)
    have RY := Lib.hid (RY.out.below hB)
    have XX := Lib.hid (XX.out.below hB)
    have YY := Lib.hid (YY.out.below hB)
    have RL := Lib.hid (RL.out.below hB)
    have BB := Lib.hid (below_trans BB.out hB)
    clear hB
    have b5 := below_alloc (Below.refl w5.heap.size w5) (.cells #[.slice A5 sa.frames.length d5, .int .i64 sa.fuel, .slice Ao5 sa.out.length do5, .int .i64 sa.done, .int .i64 sa.value] 30)
    have AA := Lib.hid (RowAt.new 30 [.slice A5 sa.frames.length d5, .int .i64 sa.fuel, .slice Ao5 sa.out.length do5, .int .i64 sa.done, .int .i64 sa.value] w5)
    have OA := Lib.hid (hos.below b5)
    have B45 := Lib.hid (below_trans B45.out b5)
    have HL := Lib.hid (HL.out.below b5)
    have RP := Lib.hid (RP.out.below b5)
    have RF := Lib.hid (RF.out.below b5)
    have RF2 := Lib.hid (RF2.out.below b5)
    have RS := Lib.hid (RS.out.below b5)
    have RA := Lib.hid (RA.out.below b5)
    have PP := Lib.hid (PP.out.below b5)
    have PF := Lib.hid (PF.out.below b5)
    have PS := Lib.hid (PS.out.below b5)
    have RX := Lib.hid (RX.out.below b5)
    have RY := Lib.hid (RY.out.below b5)
    have XX := Lib.hid (XX.out.below b5)
    have YY := Lib.hid (YY.out.below b5)
    have RL := Lib.hid (RL.out.below b5)
    have BB := Lib.hid (below_trans BB.out b5)
    have RA5 := Lib.hid (hrs5.below b5)
    have HD5 := Lib.hid hd5
    clear b5 hos hrs5 hd5
    have H := Lib.hid (rstart_any p A D c cap args fuel (w5.alloc (.cells #[.slice A5 sa.frames.length d5, .int .i64 sa.fuel, .slice Ao5 sa.out.length do5, .int .i64 sa.done, .int .i64 sa.value] 30)) RP.out RA.out)
    rw [hsa, hca] at H
    have x0 := PP.out.cell (k := 0) (by simp)
    simp only [List.getElem_cons_zero] at x0
    have HSA := Lib.hid hsa
    have HCA := Lib.hid hca
    clear hsa hca
    go_wp2_with fail
    (with_reducible refine H.out.mono ?_)
    rintro e w7 ⟨fv, ov, vss3, rfl, hos, hB⟩
    clear H x0
    obtain ⟨A6, d6, Ao6, do6, rfl, rfl, -, hrs6⟩ := hos.reads
    unfold sttV
    have HL := Lib.hid (HL.out.below hB)
    have RP := Lib.hid (RP.out.below hB)
    have RF := Lib.hid (RF.out.below hB)
    have RF2 := Lib.hid (RF2.out.below hB)
    have RS := Lib.hid (RS.out.below hB)
    have RA := Lib.hid (RA.out.below hB)
    have PP := Lib.hid (PP.out.below hB)
    have PF := Lib.hid (PF.out.below hB)
    have PS := Lib.hid (PS.out.below hB)
    have RX := Lib.hid (RX.out.below hB)
    have RY := Lib.hid (RY.out.below hB)
    have XX := Lib.hid (XX.out.below hB)
    have YY := Lib.hid (YY.out.below hB)
    have RL := Lib.hid (RL.out.below hB)
    have AA := Lib.hid (AA.out.below hB)
    have OA := Lib.hid (OA.out.below hB)
    have RA5 := Lib.hid (RA5.out.below hB)
    have BB := Lib.hid (below_trans BB.out hB)
    have B45 := Lib.hid (below_trans B45.out hB)
    clear hB
    have b7 := below_alloc (Below.refl w7.heap.size w7) (.cells #[.slice A6 sa.frames.length d6, .int .i64 sa.fuel, .slice Ao6 sa.out.length do6, .int .i64 sa.done, .int .i64 sa.value] 30)
    have A6R := Lib.hid (show RowAt 30 w7.heap.size [.slice A6 sa.frames.length d6, .int .i64 sa.fuel, .slice Ao6 sa.out.length do6, .int .i64 sa.done, .int .i64 sa.value] (w7.alloc (.cells #[.slice A6 sa.frames.length d6, .int .i64 sa.fuel, .slice Ao6 sa.out.length do6, .int .i64 sa.done, .int .i64 sa.value] 30)) from RowAt.new _ _ _)
    have HL := Lib.hid (HL.out.below b7)
    have RP := Lib.hid (RP.out.below b7)
    have RF := Lib.hid (RF.out.below b7)
    have RF2 := Lib.hid (RF2.out.below b7)
    have RS := Lib.hid (RS.out.below b7)
    have RA := Lib.hid (RA.out.below b7)
    have PP := Lib.hid (PP.out.below b7)
    have PF := Lib.hid (PF.out.below b7)
    have PS := Lib.hid (PS.out.below b7)
    have RX := Lib.hid (RX.out.below b7)
    have RY := Lib.hid (RY.out.below b7)
    have XX := Lib.hid (XX.out.below b7)
    have YY := Lib.hid (YY.out.below b7)
    have RL := Lib.hid (RL.out.below b7)
    have AA := Lib.hid (AA.out.below b7)
    have OA := Lib.hid (OA.out.below b7)
    have RA5 := Lib.hid (RA5.out.below b7)
    have BB := Lib.hid (below_trans BB.out b7)
    have B45 := Lib.hid (below_trans B45.out b7)
    have RA6 := Lib.hid (hrs6.below b7)
    clear b7 hos hrs6
    go_upto_region 5 with fail
    generalize hw8 : w7.alloc (.cells #[.slice A6 sa.frames.length d6, .int .i64 sa.fuel, .slice Ao6 sa.out.length do6, .int .i64 sa.done, .int .i64 sa.value] 30) = w8 at *
    have HALL := Lib.hid (show ∀ W', Below w8.heap.size w8 W' → W'.cell? ⟨bx, 0, none⟩ = some (.slice ao p.length co) ∧ W'.cell? ⟨W.heap.size, 0, none⟩ = some (.slice A p.length c) ∧ W'.cell? ⟨W.heap.size + 1, 0, none⟩ = some (.int .i64 f.fn) ∧ W'.cell? ⟨W.heap.size + 1, 1, none⟩ = some (.int .i64 f.pc) ∧ W'.cell? ⟨W.heap.size + 1, 2, none⟩ = some (.slice B f.locals.length d) ∧ W'.cell? ⟨W.heap.size + 1, 3, none⟩ = some (.slice B2 f.stack.length d2) ∧ W'.cell? ⟨bz, 0, none⟩ = some (.slice A3 s.frames.length d3) ∧ W'.cell? ⟨bz, 1, none⟩ = some (.int .i64 s.fuel) ∧ W'.cell? ⟨bz, 2, none⟩ = some (.slice Ao3 s.out.length do3) ∧ W'.cell? ⟨bz, 3, none⟩ = some (.int .i64 s.done) ∧ W'.cell? ⟨bz, 4, none⟩ = some (.int .i64 s.value) ∧ W'.cell? ⟨W.heap.size + 1 + 1, 0, none⟩ = some (.slice C s.frames.length k) ∧ W'.cell? ⟨W.heap.size + 1 + 1, 1, none⟩ = some (.int .i64 s.fuel) ∧ W'.cell? ⟨W.heap.size + 1 + 1, 2, none⟩ = some (.slice Co s.out.length ko) ∧ W'.cell? ⟨W.heap.size + 1 + 1, 3, none⟩ = some (.int .i64 s.done) ∧ W'.cell? ⟨W.heap.size + 1 + 1, 4, none⟩ = some (.int .i64 s.value) ∧ W'.cell? ⟨w5.heap.size, 0, none⟩ = some (.slice A5 sa.frames.length d5) ∧ W'.cell? ⟨w5.heap.size, 1, none⟩ = some (.int .i64 sa.fuel) ∧ W'.cell? ⟨w5.heap.size, 2, none⟩ = some (.slice Ao5 sa.out.length do5) ∧ W'.cell? ⟨w5.heap.size, 3, none⟩ = some (.int .i64 sa.done) ∧ W'.cell? ⟨w5.heap.size, 4, none⟩ = some (.int .i64 sa.value) ∧ W'.cell? ⟨w7.heap.size, 0, none⟩ = some (.slice A6 sa.frames.length d6) ∧ W'.cell? ⟨w7.heap.size, 1, none⟩ = some (.int .i64 sa.fuel) ∧ W'.cell? ⟨w7.heap.size, 2, none⟩ = some (.slice Ao6 sa.out.length do6) ∧ W'.cell? ⟨w7.heap.size, 3, none⟩ = some (.int .i64 sa.done) ∧ W'.cell? ⟨w7.heap.size, 4, none⟩ = some (.int .i64 sa.value) ∧ Below w8.heap.size w8 W' from fun W' hb => ⟨(XX.out.below hb).cell (k := 0) (by simp), (PP.out.below hb).cell (k := 0) (by simp), (PF.out.below hb).cell (k := 0) (by simp), (PF.out.below hb).cell (k := 1) (by simp), (PF.out.below hb).cell (k := 2) (by simp), (PF.out.below hb).cell (k := 3) (by simp), (YY.out.below hb).cell (k := 0) (by simp), (YY.out.below hb).cell (k := 1) (by simp), (YY.out.below hb).cell (k := 2) (by simp), (YY.out.below hb).cell (k := 3) (by simp), (YY.out.below hb).cell (k := 4) (by simp), (PS.out.below hb).cell (k := 0) (by simp), (PS.out.below hb).cell (k := 1) (by simp), (PS.out.below hb).cell (k := 2) (by simp), (PS.out.below hb).cell (k := 3) (by simp), (PS.out.below hb).cell (k := 4) (by simp), (AA.out.below hb).cell (k := 0) (by simp), (AA.out.below hb).cell (k := 1) (by simp), (AA.out.below hb).cell (k := 2) (by simp), (AA.out.below hb).cell (k := 3) (by simp), (AA.out.below hb).cell (k := 4) (by simp), (A6R.out.below hb).cell (k := 0) (by simp), (A6R.out.below hb).cell (k := 1) (by simp), (A6R.out.below hb).cell (k := 2) (by simp), (A6R.out.below hb).cell (k := 3) (by simp), (A6R.out.below hb).cell (k := 4) (by simp), hb⟩)
    obtain ⟨m1, hm1⟩ : ∃ m1, frameMayB p f = m1 := ⟨_, rfl⟩
    obtain ⟨m2, hm2⟩ : ∃ m2, stateB p s = m2 := ⟨_, rfl⟩
    have H1 := Lib.hid (show ∀ W', Below w8.heap.size w8 W' → Calls Tryz.prog 9 #[.agg #[.slice A5 sa.frames.length d5, .int .i64 sa.fuel, .slice Ao5 sa.out.length do5, .int .i64 sa.done, .int .i64 sa.value], .agg #[.slice A6 sa.frames.length d6, .int .i64 sa.fuel, .slice Ao6 sa.out.length do6, .int .i64 sa.done, .int .i64 sa.value]] W' (Ret (.bool true) W') from fun W' hb => by
          have q := sameState_any sa sa A5 Ao5 A6 Ao6 d5 do5 d6 do6 W' (RA5.out.below hb) (RA6.out.below hb)
          rw [decide_eq_true rfl] at q
          exact q)
    have H2 := Lib.hid (show ∀ W', Below w8.heap.size w8 W' → Calls Tryz.prog 10 #[.int .i64 ca] W' (Ret (.int .i64 ca) W') from fun W' hb => (numL_any ca W').mono fun e w'' h => ⟨h.1, by rw [h.2]; exact Below.refl _ _⟩)
    have H3 := Lib.hid (show ∀ W', Below w8.heap.size w8 W' → Calls Tryz.prog 11 #[.agg #[.slice ao p.length co], .agg #[.int .i64 f.fn, .int .i64 f.pc, .slice B f.locals.length d, .slice B2 f.stack.length d2]] W' (Ret (.bool m1) W') from fun W' hb => hm1 ▸ mayF_any p ao B B2 co d d2 f W' (HL.out.below hb) (RX.out.below hb) (RF.out.below hb) (RF2.out.below hb))
    have H4 := Lib.hid (show ∀ W', Below w8.heap.size w8 W' → Calls Tryz.prog 12 #[.agg #[.slice A p.length c], .agg #[.int .i64 f.fn, .int .i64 f.pc, .slice B f.locals.length d, .slice B2 f.stack.length d2]] W' (Ret (.bool m1) W') from fun W' hb => hm1 ▸ frameMayR_any p A B B2 c d d2 f W' (RP.out.below hb) (RF.out.below hb) (RF2.out.below hb))
    have H5 := Lib.hid (show ∀ W', Below w8.heap.size w8 W' → Calls Tryz.prog 13 #[.agg #[.slice ao p.length co], .agg #[.slice A3 s.frames.length d3, .int .i64 s.fuel, .slice Ao3 s.out.length do3, .int .i64 s.done, .int .i64 s.value]] W' (Ret (.bool m2) W') from fun W' hb => hm2 ▸ state_any p ao A3 Ao3 co d3 do3 s W' (HL.out.below hb) (RX.out.below hb) (RY.out.below hb).fr hd3 (RY.out.below hb).out)
    have H6 := Lib.hid (show ∀ W', Below w8.heap.size w8 W' → Calls Tryz.prog 14 #[.agg #[.slice A p.length c], .agg #[.slice C s.frames.length k, .int .i64 s.fuel, .slice Co s.out.length ko, .int .i64 s.done, .int .i64 s.value]] W' (Ret (.bool m2) W') from fun W' hb => hm2 ▸ rstate_any p A C Co c k ko s W' (RP.out.below hb) (RS.out.below hb).fr (RS.out.below hb).out)
    clear hm1 hm2 hw8
    have HALLB := Lib.hid (show ∀ W', Bel w8 W' → _ from fun W' hb => HALL.out W' hb)
    have HB1 := Lib.hid (show ∀ W', Bel w8 W' → Calls _ _ _ W' (fun e w'' => e = _ ∧ Bel w8 w'') from fun W' hb => (H1.out W' hb).mono fun e w'' h => ⟨h.1, bel_trans hb h.2⟩)
    have HB2 := Lib.hid (show ∀ W', Bel w8 W' → Calls _ _ _ W' (fun e w'' => e = _ ∧ Bel w8 w'') from fun W' hb => (H2.out W' hb).mono fun e w'' h => ⟨h.1, bel_trans hb h.2⟩)
    have HB3 := Lib.hid (show ∀ W', Bel w8 W' → Calls _ _ _ W' (fun e w'' => e = _ ∧ Bel w8 w'') from fun W' hb => (H3.out W' hb).mono fun e w'' h => ⟨h.1, bel_trans hb h.2⟩)
    have HB4 := Lib.hid (show ∀ W', Bel w8 W' → Calls _ _ _ W' (fun e w'' => e = _ ∧ Bel w8 w'') from fun W' hb => (H4.out W' hb).mono fun e w'' h => ⟨h.1, bel_trans hb h.2⟩)
    have HB5 := Lib.hid (show ∀ W', Bel w8 W' → Calls _ _ _ W' (fun e w'' => e = _ ∧ Bel w8 w'') from fun W' hb => (H5.out W' hb).mono fun e w'' h => ⟨h.1, bel_trans hb h.2⟩)
    have HB6 := Lib.hid (show ∀ W', Bel w8 W' → Calls _ _ _ W' (fun e w'' => e = _ ∧ Bel w8 w'') from fun W' hb => (H6.out W' hb).mono fun e w'' h => ⟨h.1, bel_trans hb h.2⟩)
    refine wp_region_bel (by kernel_rfl) (by kernel_rfl) ?_
    repeat
      first
        | go_big_quiet_skip
        | (go_big_quiet_want
           apply Exists.intro
           refine ⟨fun W' hW' => ?_, ?_⟩
           · obtain ⟨y0, y1, y2, y3, y4, y5, y6, y7, y8, y9, y10, y11, y12, y13, y14, y15, y16, y17, y18, y19, y20, y21, y22, y23, y24, y25, -⟩ := HALLB.out W' hW'
             go_simp
             first
               | exact rfl
               | (with_reducible exact HB1.out W' hW')
               | (with_reducible exact HB2.out W' hW')
               | (with_reducible exact HB3.out W' hW')
               | (with_reducible exact HB4.out W' hW')
               | (with_reducible exact HB5.out W' hW')
               | (with_reducible exact HB6.out W' hW')
           go_simp
           go_big_quiet_on)
    refine wpQuiet_nil ?_
    intro wq hq
    have HQ := Lib.hid (show Below w8.heap.size w8 wq from hq)
    clear hq
    have B4Q := Lib.hid (below_trans B45.out HQ.out)
    have H := Lib.hid (spoilState_any sa A5 Ao5 d5 do5 w4.heap.size vss2 wq (OA.out.below HQ.out))
    unfold sttV at H
    obtain ⟨a0, a1, a2, a3, a4⟩ := five (AA.out.below HQ.out)
    clear HALL HALLB H1 H2 H3 H4 H5 H6 HB1 HB2 HB3 HB4 HB5 HB6
    go_wp2_with fail
    (with_reducible refine H.out.mono ?_)
    rintro e w9 ⟨rfl, hch⟩
    have b9 := Chg.below B4Q.out hch (fun _ h => h)
    clear H a0 a1 a2 a3 a4 hch
    have HL9 := Lib.hid (HL4.out.below b9)
    have RP9 := Lib.hid (RP4.out.below b9)
    have RS9 := Lib.hid (RS4.out.below b9)
    have RA9 := Lib.hid (RA4.out.below b9)
    have PP9 := Lib.hid (PP4.out.below b9)
    have PS9 := Lib.hid (PS4.out.below b9)
    have RX9 := Lib.hid (RX4.out.below b9)
    have RY9 := Lib.hid (RY4.out.below b9)
    have XX9 := Lib.hid (XX4.out.below b9)
    have YY9 := Lib.hid (YY4.out.below b9)
    have RL9 := Lib.hid (RL4.out.below b9)
    have BB9 := Lib.hid (below_trans BB4.out b9)
    clear b9
    have H := Lib.hid (sameProgram_any ao A co c p p w9 RX9.out RP9.out)
    rw [decide_eq_true rfl] at H
    have y0 := XX9.out.cell (k := 0) (by simp)
    have y1 := PP9.out.cell (k := 0) (by simp)
    simp only [List.getElem_cons_zero] at y0 y1
    go_wp2_with fail
    (with_reducible refine H.out.mono ?_)
    rintro e w10 ⟨rfl, hB⟩
    clear H y0 y1
    have HL9 := Lib.hid (HL9.out.below hB)
    have RP9 := Lib.hid (RP9.out.below hB)
    have RS9 := Lib.hid (RS9.out.below hB)
    have RA9 := Lib.hid (RA9.out.below hB)
    have PP9 := Lib.hid (PP9.out.below hB)
    have PS9 := Lib.hid (PS9.out.below hB)
    have RX9 := Lib.hid (RX9.out.below hB)
    have RY9 := Lib.hid (RY9.out.below hB)
    have XX9 := Lib.hid (XX9.out.below hB)
    have YY9 := Lib.hid (YY9.out.below hB)
    have RL9 := Lib.hid (RL9.out.below hB)
    have BB9 := Lib.hid (below_trans BB9.out hB)
    clear hB
    have H := Lib.hid (sameState_any s s A3 Ao3 C Co d3 do3 k ko w10 RY9.out RS9.out)
    rw [decide_eq_true rfl] at H
    unfold sttV at H
    obtain ⟨y0, y1, y2, y3, y4⟩ := five YY9.out
    obtain ⟨z0, z1, z2, z3, z4⟩ := five PS9.out
    go_wp2_with fail
    (with_reducible refine H.out.mono ?_)
    rintro e w11 ⟨rfl, hB⟩
    clear H y0 y1 y2 y3 y4 z0 z1 z2 z3 z4
    have HL9 := Lib.hid (HL9.out.below hB)
    have RP9 := Lib.hid (RP9.out.below hB)
    have RS9 := Lib.hid (RS9.out.below hB)
    have RA9 := Lib.hid (RA9.out.below hB)
    have PP9 := Lib.hid (PP9.out.below hB)
    have PS9 := Lib.hid (PS9.out.below hB)
    have RX9 := Lib.hid (RX9.out.below hB)
    have RY9 := Lib.hid (RY9.out.below hB)
    have XX9 := Lib.hid (XX9.out.below hB)
    have YY9 := Lib.hid (YY9.out.below hB)
    have RL9 := Lib.hid (RL9.out.below hB)
    have BB9 := Lib.hid (below_trans BB9.out hB)
    clear hB
    have H := Lib.hid (keptInts_any g off cap2 cap D args w11 HC1.out HC2.out RL9.out RA9.out)
    go_wp2_with fail
    (with_reducible refine H.out.mono ?_)
    rintro e w12 h12
    obtain ⟨rfl, hB⟩ := h12.ret
    clear H h12
    have HL9 := Lib.hid (HL9.out.below hB)
    have RP9 := Lib.hid (RP9.out.below hB)
    have RS9 := Lib.hid (RS9.out.below hB)
    have RA9 := Lib.hid (RA9.out.below hB)
    have PP9 := Lib.hid (PP9.out.below hB)
    have PS9 := Lib.hid (PS9.out.below hB)
    have RX9 := Lib.hid (RX9.out.below hB)
    have RY9 := Lib.hid (RY9.out.below hB)
    have XX9 := Lib.hid (XX9.out.below hB)
    have YY9 := Lib.hid (YY9.out.below hB)
    have RL9 := Lib.hid (RL9.out.below hB)
    have BB9 := Lib.hid (below_trans BB9.out hB)
    clear hB
    have H := Lib.hid (awake6_any w12 HL9.out)
    go_wp2_with fail
    (with_reducible refine H.out.mono ?_)
    rintro e w13 ⟨rfl, hB⟩
    have BB9 := Lib.hid (below_trans BB9.out hB)
    clear H hB
    go_wp2_with fail
    go_ret
    exact ⟨rfl, BB9.out⟩
  · rintro l a' w i ⟨x18, x19, x20, x21, x11, x12, b0, b1, b2, b3, b4, b5, b6, b7, l1, h1, l2, h2, bx, bz, rfl, rfl, g18, g20, hJ⟩ hi
    obtain ⟨hu, o, ho, ha⟩ := mem_ready.1 hi
    clear hi
    match i, hu, ho with
    | 0, hu, ho =>
      cases ho
      obtain ⟨c0, s0, s1, s2, s3, s4⟩ := HALL.out w hJ.below
      simp only [Act.put, List.setIfInBounds_toArray, List.set_cons_zero, List.set_cons_succ]
      refine wpOp_step rfl (fun K hK => ?_)
      go_simp
      refine hK _ _ ?_
      exact ⟨.agg #[.slice A p.length c], x19, x20, x21, x11, x12, true, b1, b2, b3, b4, b5, b6, b7, l1, h1, l2, h2, bx, bz, rfl, rfl, (fun _ => rfl), g20, hJ⟩
    | 1, hu, ho =>
      cases ho
      obtain rfl : b0 = true := by simpa using ha ⟨0, .data⟩ (by simp) rfl
      obtain rfl : b1 = false := by simpa using hu
      obtain rfl := g18 rfl
      simp only [Act.put, List.setIfInBounds_toArray, List.set_cons_zero, List.set_cons_succ]
      refine wpOp_step rfl (fun K hK => ?_)
      go_simp
      (with_reducible refine (HC.out w hJ.below).mono ?_)
      rintro e w' ⟨ao, co, rfl, hO, hB⟩
      go_simp
      refine hK _ _ ?_
      exact ⟨_, .agg #[.slice ao p.length co], x20, x21, x11, x12, true, true, b2, b3, b4, b5, b6, b7, w.heap.size, w'.heap.size, l2, h2, bx, bz, rfl, rfl, (fun _ => rfl), g20, hJ.call1 hB (fun T w'' hk hd => ⟨ao, co, _, rfl, hO.stays T w'' hk hd⟩)⟩
    | 2, hu, ho =>
      cases ho
      obtain ⟨c0, s0, s1, s2, s3, s4⟩ := HALL.out w hJ.below
      simp only [Act.put, List.setIfInBounds_toArray, List.set_cons_zero, List.set_cons_succ]
      refine wpOp_step rfl (fun K hK => ?_)
      go_simp
      refine hK _ _ ?_
      exact ⟨x18, x19, .agg #[.slice C s.frames.length k, .int .i64 s.fuel, .slice Co s.out.length ko, .int .i64 s.done, .int .i64 s.value], x21, x11, x12, b0, b1, true, b3, b4, b5, b6, b7, l1, h1, l2, h2, bx, bz, rfl, rfl, g18, (fun _ => rfl), hJ⟩
    | 3, hu, ho =>
      cases ho
      obtain rfl : b2 = true := by simpa using ha ⟨2, .data⟩ (by simp) rfl
      obtain rfl : b3 = false := by simpa using hu
      obtain rfl := g20 rfl
      simp only [Act.put, List.setIfInBounds_toArray, List.set_cons_zero, List.set_cons_succ]
      refine wpOp_step rfl (fun K hK => ?_)
      go_simp
      (with_reducible refine (HD.out w hJ.below).mono ?_)
      rintro e w' ⟨fv, ov, vss, rfl, hO, hB⟩
      obtain ⟨A3, d3, Ao3, do3, rfl, rfl, hd3, -⟩ := hO.reads
      unfold sttV
      go_simp
      refine hK _ _ ?_
      exact ⟨x18, x19, _, .agg #[.slice A3 s.frames.length d3, .int .i64 s.fuel, .slice Ao3 s.out.length do3, .int .i64 s.done, .int .i64 s.value], x11, x12, b0, b1, true, true, b4, b5, b6, b7, l1, h1, w.heap.size, w'.heap.size, bx, bz, rfl, rfl, g18, (fun _ => rfl), hJ.call2 hB (fun T w'' hk hd => ⟨A3, d3, Ao3, do3, vss, _, rfl, hd3, hO.stays T w'' hk hd⟩)⟩
    | 4, hu, ho =>
      cases ho
      obtain rfl : b4 = false := by simpa using hu
      simp only [Act.put, List.setIfInBounds_toArray, List.set_cons_zero, List.set_cons_succ]
      refine wpOp_step rfl (fun K hK => ?_)
      go_simp
      refine hK _ _ ?_
      exact ⟨x18, x19, x20, x21, .pointer (some ⟨w.heap.size, 0, none⟩), x12, b0, b1, b2, b3, true, b5, b6, b7, l1, h1, l2, h2, w.heap.size, bz, rfl, rfl, g18, g20, hJ.newX⟩
    | 5, hu, ho =>
      cases ho
      obtain rfl : b5 = false := by simpa using hu
      simp only [Act.put, List.setIfInBounds_toArray, List.set_cons_zero, List.set_cons_succ]
      refine wpOp_step rfl (fun K hK => ?_)
      go_simp
      refine hK _ _ ?_
      exact ⟨x18, x19, x20, x21, x11, .pointer (some ⟨w.heap.size, 0, none⟩), b0, b1, b2, b3, b4, true, b6, b7, l1, h1, l2, h2, bx, w.heap.size, rfl, rfl, g18, g20, hJ.newY⟩
    | 6, hu, ho =>
      cases ho
      obtain rfl : b4 = true := by simpa using ha ⟨4, .data⟩ (by simp) rfl
      obtain rfl : b1 = true := by simpa using ha ⟨1, .data⟩ (by simp) rfl
      obtain rfl : b3 = true := by simpa using ha ⟨3, .chain⟩ (by simp) rfl
      obtain rfl : b5 = true := by simpa using ha ⟨5, .phase⟩ (by simp) rfl
      obtain rfl : b6 = false := by simpa using hu
      obtain ⟨ao, co, base, rfl, hO⟩ := (hJ.got1 rfl).2.2.now
      obtain ⟨rfl, hge, hlt, hrow⟩ := hJ.isX rfl
      have hrow : RowAt 24 bx [.slice none 0 0] w := hrow
      have q0 := hrow.cell (k := 0) (by simp)
      have f0 := hrow.free 0
      simp only [List.getElem_cons_zero] at q0
      simp only [Act.put, List.setIfInBounds_toArray, List.set_cons_zero, List.set_cons_succ]
      refine wpOp_step rfl (fun K hK => ?_)
      go_simp
      have hk := (Chg.refl (fun b => b = bx) w).put (a := ⟨bx, 0, none⟩) rfl (.slice ao p.length co)
      have hr2 : RowAt 24 bx (aggC (.agg #[.slice ao p.length co])) (w.setCell ⟨bx, 0, none⟩ (.slice ao p.length co)) := hrow.put 0 (.slice ao p.length co)
      refine hK _ _ ?_
      exact ⟨x18, _, x20, x21, _, x12, b0, true, b2, true, true, true, true, b7, l1, h1, l2, h2, bx, bz, rfl, rfl, g18, g20, hJ.putX hk hr2⟩
    | 7, hu, ho =>
      cases ho
      obtain rfl : b4 = true := by simpa using ha ⟨4, .phase⟩ (by simp) rfl
      obtain rfl : b1 = true := by simpa using ha ⟨1, .phase⟩ (by simp) rfl
      obtain rfl : b3 = true := by simpa using ha ⟨3, .data⟩ (by simp) rfl
      obtain rfl : b5 = true := by simpa using ha ⟨5, .data⟩ (by simp) rfl
      obtain rfl : b7 = false := by simpa using hu
      obtain ⟨A3, d3, Ao3, do3, vss, base, rfl, hd3, hO⟩ := (hJ.got2 rfl).2.2.now
      obtain ⟨rfl, hge, hlt, hrow⟩ := hJ.isY rfl
      have hrow : RowAt 30 bz [.slice none 0 0, .int .i64 0, .slice none 0 0, .int .i64 0, .int .i64 0] w := hrow
      obtain ⟨q0, q1, q2, q3, q4⟩ := five hrow
      have f0 := hrow.free 0
      have f1 := hrow.free 1
      have f2 := hrow.free 2
      have f3 := hrow.free 3
      have f4 := hrow.free 4
      simp only [Act.put, List.setIfInBounds_toArray, List.set_cons_zero, List.set_cons_succ]
      refine wpOp_step rfl (fun K hK => ?_)
      go_simp
      have hk := ((((((Chg.refl (fun b => b = bz) w).put (a := ⟨bz, 0, none⟩) rfl (.slice A3 s.frames.length d3)).put (a := ⟨bz, 1, none⟩) rfl (.int .i64 s.fuel)).put (a := ⟨bz, 2, none⟩) rfl (.slice Ao3 s.out.length do3)).put (a := ⟨bz, 3, none⟩) rfl (.int .i64 s.done)).put (a := ⟨bz, 4, none⟩) rfl (.int .i64 s.value))
      have hr2 : RowAt 30 bz (aggC (.agg #[.slice A3 s.frames.length d3, .int .i64 s.fuel, .slice Ao3 s.out.length do3, .int .i64 s.done, .int .i64 s.value])) (((((w.setCell ⟨bz, 0, none⟩ (.slice A3 s.frames.length d3)).setCell ⟨bz, 1, none⟩ (.int .i64 s.fuel)).setCell ⟨bz, 2, none⟩ (.slice Ao3 s.out.length do3)).setCell ⟨bz, 3, none⟩ (.int .i64 s.done)).setCell ⟨bz, 4, none⟩ (.int .i64 s.value)) := (((((hrow.put 0 (.slice A3 s.frames.length d3)).put 1 (.int .i64 s.fuel)).put 2 (.slice Ao3 s.out.length do3)).put 3 (.int .i64 s.done)).put 4 (.int .i64 s.value))
      refine hK _ _ ?_
      exact ⟨x18, x19, x20, _, x11, _, b0, true, b2, true, true, true, b6, true, l1, h1, l2, h2, bx, bz, rfl, rfl, g18, g20, hJ.putY hk hr2⟩
    | n + 8, hu, ho => simp at ho
end Go.Proofs.YtdjlaglilokjeaaGreatDoor
