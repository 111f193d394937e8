/- StepEnds: the walk. Conditions: errors.errorType is laid. -/
import Derived.Test.YtjghibdlmmjobaaGreatDoorEndsLaw
import Derived.Test.YtjghibdlmmjobaaGreatDoorLAw7
namespace Go.Proofs.YtjghibdlmmjobaaGreatDoor
open Go.RowKit

theorem u64_rem4 (v : Int) : ∃ p : Nat, wrap64 ((IntKind.u64.wrap v).tmod 4) = p ∧ p < 4 := by
  have h0 : IntKind.u64.wrap v = v % 18446744073709551616 := by rw [IntKind.wrap_u64]
  have h2 : 0 ≤ v % 18446744073709551616 := by omega
  refine ⟨((v % 18446744073709551616) % 4).toNat, ?_, by omega⟩
  rw [h0, Int.tmod_eq_emod_of_nonneg h2]
  unfold wrap64
  omega
theorem small7_m {a l : Int} {A : Option Addr} {c n : Nat} {code : List Ins} {w : World} (hr : ReadsC w A code) (e : code.length = n) : Calls Tryz.prog 30 #[.int .i64 a, .int .i64 l, .slice A n c] w (ProgL [⟨a, l, code⟩] 1 w) := by
  subst e; exact small7_any a l A c code w hr
/-- The programs that the statement lays, in a row. -/
def EndPs (b : Nat) (w : World) : Prop := ∃ g1 g2 g3, RowAt 24 b [.slice (some ⟨g3, 0, none⟩) 1 1, .slice (some ⟨g2, 0, none⟩) 1 1, .slice (some ⟨g1, 0, none⟩) 1 1, .slice (some ⟨g1, 0, none⟩) 1 1] w ∧ ReadsF w (some ⟨g3, 0, none⟩) retP ∧ ReadsF w (some ⟨g2, 0, none⟩) zeroP ∧ ReadsF w (some ⟨g1, 0, none⟩) selfP
set_option maxRecDepth 100000 in
set_option maxHeartbeats 20000000 in
theorem stepEnds_yes (which value : Int) (W : World) (hl : Laid W) : Calls Tryz.prog 5 #[.int .i64 which, .int .i64 value] W (Ret (.bool true) W) := by
  have HA := Lib.hid (awake7_any W hl)
  have HL := Lib.hid hl
  clear hl
  go_enter Tryz.func5, Tryz.ntmps5
  go_wp2_with fail
  (with_reducible refine HA.out.mono ?_)
  rintro e w1 ⟨rfl, hB1⟩
  have BB := Lib.hid hB1
  clear HA hB1
  obtain ⟨w2, hw2⟩ : ∃ w2, w1.alloc (.cells (insV [⟨14, 0⟩, ⟨16, 0⟩]).toArray 48) = w2 := ⟨_, rfl⟩
  have b2 : Below w1.heap.size w1 w2 := hw2 ▸ below_alloc (Below.refl _ _) _
  have HS := Lib.hid (small7_m (a := 0) (l := 0) (A := some ⟨w1.heap.size, 0, none⟩) (c := 2) (n := 2) (code := [⟨14, 0⟩, ⟨16, 0⟩]) (w := w2) (codeL (hw2 ▸ RowAt.new _ _ w1) (by simp)) rfl)
  have BB := Lib.hid (below_trans BB.out b2)
  clear b2
  have hw2' : w1.alloc (.cells #[.int .i64 14, .int .i64 0, .int .i64 16, .int .i64 0] 48) = w2 := hw2
  go_wp2_with fail
  (with_reducible refine HS.out.mono ?_)
  rintro e w3 ⟨g1, rfl, hr1, hB3⟩
  have BB := Lib.hid (below_trans BB.out hB3)
  have RS := Lib.hid hr1
  clear HS hB3 hr1 hw2 hw2'
  obtain ⟨w4, hw4⟩ : ∃ w4, w3.alloc (.cells #[.slice (some ⟨g1, 0, none⟩) 1 1] 24) = w4 := ⟨_, rfl⟩
  have b4 : Below w3.heap.size w3 w4 := hw4 ▸ below_alloc (Below.refl _ _) _
  have BB := Lib.hid (below_trans BB.out b4)
  have RS := Lib.hid (RS.out.below b4)
  have PS := Lib.hid (hw4 ▸ RowAt.new _ _ w3 : RowAt 24 w3.heap.size [.slice (some ⟨g1, 0, none⟩) 1 1] w4)
  clear b4
  go_upto_region 7 with fail
  clear hw4
  obtain ⟨ii, hi, hz0, hsz, hbb⟩ := info_parts info_frame
  have HII := Lib.hid (And.intro hi (And.intro hz0 (And.intro hsz hbb)))
  clear hi hz0 hsz hbb
  go_loopw [7, 8] (fun d i wr => ∃ (k : Nat), i = .int .i64 k ∧ k ≤ 11 ∧ OwnFr wr w4.heap.size d (List.replicate k ⟨0, 1, [], []⟩) (List.replicate k [.slice none 0 0, .slice none 0 0]) ∧ Below w4.heap.size w4 wr) (fun _ i _ => 11 - (intOf i).toNat)
  case atStart => exact ⟨0, rfl, Nat.zero_le _, OwnG.nil _ _ _, Below.refl _ _⟩
  case round =>
    obtain ⟨k, rfl, hk, ho, hb⟩ := hrel
    have HK := Lib.hid hk
    clear hk
    obtain ⟨av, cv, ev, _, _⟩ := ho.row.shape
    rw [List.length_replicate] at ev
    subst ev
    have HO := Lib.hid ho
    have HB := Lib.hid hb
    clear ho hb
    by_cases hlt : k < 11
    · have b5 := below_alloc (Below.refl wr.heap.size wr) (.cells #[.int .i64 0, .int .i64 1, .slice none 0 0, .slice none 0 0] 54)
      have how := OwnG.below HO.out b5
      have rF : RowAt 54 wr.heap.size (frC ⟨0, 1, [], []⟩ (.slice none 0 0) (.slice none 0 0)) (wr.alloc (.cells #[.int .i64 0, .int .i64 1, .slice none 0 0, .slice none 0 0] 54)) := RowAt.new _ _ wr
      have hrow := how.row
      simp only [List.length_replicate] at hrow
      obtain ⟨v', w6, hrun, hG⟩ := run_append_crow (P := Tryz.prog) (wr.alloc (.cells #[.int .i64 0, .int .i64 1, .slice none 0 0, .slice none 0 0] 54)) 55 54 55 55 ii _ 4 64 Tryz.underlying55 HII.out.1 HII.out.2.1 HII.out.2.2.1 HII.out.2.2.2 rfl w4.heap.size av k cv _ hrow (by have := HB.out.size; have := b5.size; omega)
        (.slice (some ⟨wr.heap.size, 0, none⟩) 1 1) 1 _ (frame_src rF) (by omega) (by unfold maxLen; omega)
      obtain ⟨ao', cap', rfl, _, _⟩ := hG.row.shape
      have HP := Lib.hid (OwnFr.push (f := ⟨0, 1, [], []⟩) (N := wr.heap.size) how List.length_replicate hG (innI_nil _ _) (innI_nil _ _) (fun u hu b e => (OwnG.lo HO.out u hu b e).2) (fun x e => by cases e) (fun x e => by cases e) (fun x e _ => by cases e))
      have B6 := Lib.hid (hG.chg.below (below_trans HB.out b5) (fun b e => (OwnG.lo how _ (by simp) b e).1))
      clear b5 how rF hrow hG
      go_wp2_with (at_builtin; refine wpList_append_run _ rfl _ _ _ _ rfl _ _ _ _ rfl rfl hrun ?_)
      go_roundw
      case rel => exact ⟨k + 1, by go_num, by omega, by rw [List.replicate_succ', List.replicate_succ']; exact HP.out, B6.out⟩
      case measure => simp only [intOf]; omega
    · obtain rfl : k = 11 := by have := HK.out; omega
      have b5 := below_alloc (Below.refl wr.heap.size wr) (.cells #[.int .i64 0, .int .i64 0, .slice none 0 0, .slice none 0 0] 54)
      have how := OwnG.below HO.out b5
      have rF : RowAt 54 wr.heap.size (frC ⟨0, 0, [], []⟩ (.slice none 0 0) (.slice none 0 0)) (wr.alloc (.cells #[.int .i64 0, .int .i64 0, .slice none 0 0, .slice none 0 0] 54)) := RowAt.new _ _ wr
      have hrow := how.row
      simp only [List.length_replicate] at hrow
      obtain ⟨v', w6, hrun, hG⟩ := run_append_crow (P := Tryz.prog) (wr.alloc (.cells #[.int .i64 0, .int .i64 0, .slice none 0 0, .slice none 0 0] 54)) 55 54 55 55 ii _ 4 64 Tryz.underlying55 HII.out.1 HII.out.2.1 HII.out.2.2.1 HII.out.2.2.2 rfl w4.heap.size av 11 cv _ hrow (by have := HB.out.size; have := b5.size; omega)
        (.slice (some ⟨wr.heap.size, 0, none⟩) 1 1) 1 _ (frame_src rF) (by omega) (by unfold maxLen; omega)
      obtain ⟨ao', cap', rfl, hcap, _⟩ := hG.row.shape
      have HCAP := Lib.hid (show 12 ≤ cap' from hcap)
      clear hcap
      have hp := OwnFr.push (f := ⟨0, 0, [], []⟩) (N := wr.heap.size) how List.length_replicate hG (innI_nil _ _) (innI_nil _ _) (fun u hu b e => (OwnG.lo HO.out u hu b e).2) (fun x e => by cases e) (fun x e => by cases e) (fun x e _ => by cases e)
      have RD := Lib.hid (show ReadsFr w6 ao' deepF from hp.reads.2)
      have B6 := Lib.hid (hG.chg.below (below_trans HB.out b5) (fun b e => (OwnG.lo how _ (by simp) b e).1))
      clear b5 how rF hrow hG hp HO HK hlt
      have hrun : (Builtin.append_ #[55, 55] 55 #[.slice av 11 cv, .slice (some ⟨wr.heap.size, 0, none⟩) 1 1]).run Tryz.prog (wr.alloc (.cells #[.int .i64 0, .int .i64 0, .slice none 0 0, .slice none 0 0] 54)) = .ok (.slice ao' 12 cap') w6 := hrun
      go_upto_region 11 with (at_builtin; refine wpList_append_run _ rfl _ _ _ _ rfl _ _ _ _ rfl rfl hrun ?_)
      have BB := Lib.hid (below_trans BB.out B6.out)
      have RS := Lib.hid (RS.out.below B6.out)
      have PS := Lib.hid (PS.out.below B6.out)
      clear B6 HB hrun
      obtain ⟨w7, hw7⟩ : ∃ w7, w6.alloc (.cells (insV [⟨0, 1⟩, ⟨0, 0⟩, ⟨6, 0⟩, ⟨16, 0⟩]).toArray 48) = w7 := ⟨_, rfl⟩
      have b7 : Below w6.heap.size w6 w7 := hw7 ▸ below_alloc (Below.refl _ _) _
      have HS := Lib.hid (small7_m (a := 0) (l := 0) (A := some ⟨w6.heap.size, 0, none⟩) (c := 4) (n := 4) (code := [⟨0, 1⟩, ⟨0, 0⟩, ⟨6, 0⟩, ⟨16, 0⟩]) (w := w7) (codeL (hw7 ▸ RowAt.new _ _ w6) (by simp)) rfl)
      have BB := Lib.hid (below_trans BB.out b7)
      have RS := Lib.hid (RS.out.below b7)
      have PS := Lib.hid (PS.out.below b7)
      have RD := Lib.hid (RD.out.below b7)
      clear b7
      have hw7' : w6.alloc (.cells #[.int .i64 0, .int .i64 1, .int .i64 0, .int .i64 0, .int .i64 6, .int .i64 0, .int .i64 16, .int .i64 0] 48) = w7 := hw7
      go_wp2_with fail
      (with_reducible refine HS.out.mono ?_)
      rintro e w8 ⟨g2, rfl, hr2, hB8⟩
      have BB := Lib.hid (below_trans BB.out hB8)
      have RS := Lib.hid (RS.out.below hB8)
      have PS := Lib.hid (PS.out.below hB8)
      have RD := Lib.hid (RD.out.below hB8)
      have RZ := Lib.hid hr2
      clear HS hB8 hr2 hw7 hw7'
      obtain ⟨w9, hw9⟩ : ∃ w9, w8.alloc (.cells #[.slice (some ⟨g2, 0, none⟩) 1 1] 24) = w9 := ⟨_, rfl⟩
      have b9 : Below w8.heap.size w8 w9 := hw9 ▸ below_alloc (Below.refl _ _) _
      have BB := Lib.hid (below_trans BB.out b9)
      have RS := Lib.hid (RS.out.below b9)
      have PS := Lib.hid (PS.out.below b9)
      have RD := Lib.hid (RD.out.below b9)
      have RZ := Lib.hid (RZ.out.below b9)
      have PZ := Lib.hid (hw9 ▸ RowAt.new _ _ w8 : RowAt 24 w8.heap.size [.slice (some ⟨g2, 0, none⟩) 1 1] w9)
      clear b9
      go_upto_region 12 with fail
      clear hw9
      go_cut [10] (fun v wc => ∃ b, v = .slice (some ⟨b, 0, none⟩) 4 4 ∧ EndPs b wc ∧ Below w9.heap.size w9 wc)
      case first =>
        have bd : Below w9.heap.size w9 (w9.alloc (.cells (insV [⟨0, 1⟩, ⟨16, 0⟩]).toArray 48)).drew := below_drw (below_alloc (Below.refl _ _) _)
        have BD := Lib.hid bd
        have HS := Lib.hid (show Calls Tryz.prog 30 #[.int .i64 0, .int .i64 0, .slice (some ⟨w9.heap.size, 0, none⟩) 2 2] (w9.alloc (.cells #[.int .i64 0, .int .i64 1, .int .i64 16, .int .i64 0] 48)).drew (ProgL [⟨0, 0, [⟨0, 1⟩, ⟨16, 0⟩]⟩] 1 (w9.alloc (.cells (insV [⟨0, 1⟩, ⟨16, 0⟩]).toArray 48)).drew) from
          small7_m (a := 0) (l := 0) (A := some ⟨w9.heap.size, 0, none⟩) (c := 2) (n := 2) (code := [⟨0, 1⟩, ⟨16, 0⟩]) (codeL ((RowAt.new _ _ w9).below (below_drw (Below.refl _ _))) (by simp)) rfl)
        have cz := row_cell PZ.out
        have cs := row_cell PS.out
        have cz1 : (w9.alloc (.cells #[.int .i64 0, .int .i64 1, .int .i64 16, .int .i64 0] 48)).drew.cell? ⟨w8.heap.size, 0, none⟩ = some (.slice (some ⟨g2, 0, none⟩) 1 1) := cell_below BD.out cz
        have cs1 : (w9.alloc (.cells #[.int .i64 0, .int .i64 1, .int .i64 16, .int .i64 0] 48)).drew.cell? ⟨w3.heap.size, 0, none⟩ = some (.slice (some ⟨g1, 0, none⟩) 1 1) := cell_below BD.out cs
        clear bd
        go_region_law (first | (rw [if_pos (by rfl)]; go_simp; go_at_call 30; (with_reducible refine HS.out.mono ?_); rintro e w10 ⟨g3, rfl, hr3, hB10⟩; have cz := cell_below (below_trans BD.out hB10) cz; have cs := cell_below (below_trans BD.out hB10) cs; have HB10 := Lib.hid (below_trans BD.out hB10); have R3 := Lib.hid hr3; clear hr3 hB10; go_simp))
        all_goals
          go_wp2_with fail
          go_meet
          have b11 := below_alloc (Below.refl w10.heap.size w10) (.cells #[.slice (some ⟨g3, 0, none⟩) 1 1, .slice (some ⟨g2, 0, none⟩) 1 1, .slice (some ⟨g1, 0, none⟩) 1 1, .slice (some ⟨g1, 0, none⟩) 1 1] 24)
          exact ⟨w10.heap.size, rfl, ⟨g1, g2, g3, RowAt.new _ _ w10, R3.out.below b11, (RZ.out.below HB10.out).below b11, (RS.out.below HB10.out).below b11⟩, below_trans HB10.out b11⟩
      case rest =>
        obtain ⟨bp, rfl, hps, hbc⟩ := hcut
        have RD := Lib.hid (RD.out.below hbc)
        have BB := Lib.hid (below_trans BB.out hbc)
        have HPS := Lib.hid hps
        clear hps hbc RS PS RZ PZ
        generalize hvv : wrap64 (wrap32 (IntKind.u64.wrap value % 4294967296)) = v
        have HV := Lib.hid (show isNum v = true by rw [← hvv, wrap_n]; exact wrapN_num _)
        clear hvv
        obtain ⟨w11, hw11⟩ : ∃ w11, wc.alloc (.cells #[.int .i64 v] 3) = w11 := ⟨_, rfl⟩
        obtain ⟨w12, hw12⟩ : ∃ w12, w11.alloc (.cells #[.int .i64 0, .int .i64 1, .slice none 0 0, .slice (some ⟨wc.heap.size, 0, none⟩) 1 1] 54) = w12 := ⟨_, rfl⟩
        obtain ⟨w13, hw13⟩ : ∃ w13, w12.alloc (.cells #[.int .i64 v, .int .i64 0] 3) = w13 := ⟨_, rfl⟩
        obtain ⟨w14, hw14⟩ : ∃ w14, w13.alloc (.cells #[.int .i64 0, .int .i64 2, .slice none 0 0, .slice (some ⟨w12.heap.size, 0, none⟩) 2 2] 54) = w14 := ⟨_, rfl⟩
        obtain ⟨w15, hw15⟩ : ∃ w15, w14.alloc (.cells #[.slice (some ⟨w11.heap.size, 0, none⟩) 1 1, .int .i64 1, .slice none 0 0, .int .i64 0, .int .i64 0, .slice (some ⟨w13.heap.size, 0, none⟩) 1 1, .int .i64 5, .slice none 0 0, .int .i64 0, .int .i64 0, .slice ao' 12 cap', .int .i64 5, .slice none 0 0, .int .i64 0, .int .i64 0, .slice ao' 12 cap', .int .i64 0, .slice none 0 0, .int .i64 0, .int .i64 0] 57) = w15 := ⟨_, rfl⟩
        obtain ⟨w16, hw16⟩ : ∃ w16, w15.alloc (.cells #[.slice none 0 0, .int .i64 0, .slice none 0 0, .int .i64 1, .int .i64 v, .slice none 0 0, .int .i64 4, .slice none 0 0, .int .i64 2, .int .i64 0, .slice none 0 0, .int .i64 4, .slice none 0 0, .int .i64 3, .int .i64 0, .slice none 0 0, .int .i64 0, .slice none 0 0, .int .i64 4, .int .i64 0] 57) = w16 := ⟨_, rfl⟩
        have b11 : Below wc.heap.size wc w11 := hw11 ▸ below_alloc (Below.refl _ _) _
        have b12 : Below w11.heap.size w11 w12 := hw12 ▸ below_alloc (Below.refl _ _) _
        have b13 : Below w12.heap.size w12 w13 := hw13 ▸ below_alloc (Below.refl _ _) _
        have b14 : Below w13.heap.size w13 w14 := hw14 ▸ below_alloc (Below.refl _ _) _
        have b15 : Below w14.heap.size w14 w15 := hw15 ▸ below_alloc (Below.refl _ _) _
        have b16 : Below w15.heap.size w15 w16 := hw16 ▸ below_alloc (Below.refl _ _) _
        have b1416 := below_trans b15 b16
        have b1316 := below_trans b14 b1416
        have b1216 := below_trans b13 b1316
        have b1116 := below_trans b12 b1216
        have r11 : RowAt 3 wc.heap.size (intsV [v]) w11 := hw11 ▸ RowAt.new _ _ wc
        have r12 : RowAt 54 w11.heap.size [.int .i64 0, .int .i64 1, .slice none 0 0, .slice (some ⟨wc.heap.size, 0, none⟩) 1 1] w12 := hw12 ▸ RowAt.new _ _ w11
        have r13 : RowAt 3 w12.heap.size (intsV [v, 0]) w13 := hw13 ▸ RowAt.new _ _ w12
        have r14 : RowAt 54 w13.heap.size [.int .i64 0, .int .i64 2, .slice none 0 0, .slice (some ⟨w12.heap.size, 0, none⟩) 2 2] w14 := hw14 ▸ RowAt.new _ _ w13
        have r15 : RowAt 57 w14.heap.size _ w15 := hw15 ▸ RowAt.new _ _ w14
        have r16 : RowAt 57 w15.heap.size _ w16 := hw16 ▸ RowAt.new _ _ w15
        have RSS := Lib.hid (r15.below b16)
        have RWT := Lib.hid r16
        have RS0 := Lib.hid (show ReadsS w16 (endSt v 0) (some ⟨w11.heap.size, 0, none⟩) none from ⟨frs1 (frm_at (j := 0) (r12.below b1216) (by simp) rfl rfl rfl rfl reads_i0 (intsL (r11.below b1116) (by simp)) rfl rfl), reads_i0⟩)
        have RS1 := Lib.hid (show ReadsS w16 (endSt v 1) (some ⟨w13.heap.size, 0, none⟩) none from ⟨frs1 (frm_at (j := 0) (r14.below b1416) (by simp) rfl rfl rfl rfl reads_i0 (intsL (r13.below b1316) (by simp)) rfl rfl), reads_i0⟩)
        have bc16 := below_trans b11 b1116
        have RS2 := Lib.hid (show ReadsS w16 (endSt v 2) ao' none from ⟨RD.out.below bc16, reads_i0⟩)
        have RS3 := Lib.hid (show ReadsS w16 (endSt v 3) ao' none from ⟨RD.out.below bc16, reads_i0⟩)
        obtain ⟨g1, g2, g3, hrp, hp3, hp2, hp1⟩ := HPS.out
        have RPS := Lib.hid (hrp.below bc16)
        have RP0 := Lib.hid (show ReadsF w16 (some ⟨g3, 0, none⟩) (endP 0) from hp3.below bc16)
        have RP1 := Lib.hid (show ReadsF w16 (some ⟨g2, 0, none⟩) (endP 1) from hp2.below bc16)
        have RP2 := Lib.hid (show ReadsF w16 (some ⟨g1, 0, none⟩) (endP 2) from hp1.below bc16)
        have RP3 := Lib.hid (show ReadsF w16 (some ⟨g1, 0, none⟩) (endP 3) from hp1.below bc16)
        have B16 := Lib.hid bc16
        clear b11 b12 b13 b14 b15 b16 b1416 b1316 b1216 b1116 r11 r12 r13 r14 r15 r16 bc16 hrp hp3 hp2 hp1 HPS
        obtain ⟨kk, hkk, hk4⟩ := u64_rem4 which
        go_upto_region 16 with fail
        rw [hkk]
        clear hw11 hw12 hw13 hw14 hw15 hw16 hkk RD
        obtain ⟨ga, FA, fn, fc, fu, wf, wd, wv, q0, s0, s1, s2, s3, s4, x0, x1, x2, x3, x4, hRP, hPL, hRS, hFL, hfc, hOL, hS1, hS2, hS3, hW1, hW2, hW3, hW4, hW5⟩ : ∃ (ga FA : Option Addr) (fn fc : Nat) (fu wf wd wv : Int), w16.cell? ⟨bp, kk, none⟩ = some (.slice ga 1 1) ∧ w16.cell? ⟨w14.heap.size, kk * 5, none⟩ = some (.slice FA fn fc) ∧ w16.cell? ⟨w14.heap.size, kk * 5 + 1, none⟩ = some (.int .i64 fu) ∧ w16.cell? ⟨w14.heap.size, kk * 5 + 2, none⟩ = some (.slice none 0 0) ∧ w16.cell? ⟨w14.heap.size, kk * 5 + 3, none⟩ = some (.int .i64 0) ∧ w16.cell? ⟨w14.heap.size, kk * 5 + 4, none⟩ = some (.int .i64 0) ∧
            w16.cell? ⟨w15.heap.size, kk * 5, none⟩ = some (.slice none 0 0) ∧ w16.cell? ⟨w15.heap.size, kk * 5 + 1, none⟩ = some (.int .i64 wf) ∧ w16.cell? ⟨w15.heap.size, kk * 5 + 2, none⟩ = some (.slice none 0 0) ∧ w16.cell? ⟨w15.heap.size, kk * 5 + 3, none⟩ = some (.int .i64 wd) ∧ w16.cell? ⟨w15.heap.size, kk * 5 + 4, none⟩ = some (.int .i64 wv) ∧
            ReadsF w16 ga (endP kk) ∧ (endP kk).length = 1 ∧ ReadsS w16 (endSt v kk) FA none ∧ (endSt v kk).frames.length = fn ∧ fn ≤ fc ∧ (endSt v kk).out.length = 0 ∧ (endSt v kk).fuel = fu ∧ (endSt v kk).done = 0 ∧ (endSt v kk).value = 0 ∧ (endW v kk).frames = [] ∧ (endW v kk).out = [] ∧ (endW v kk).fuel = wf ∧ (endW v kk).done = wd ∧ (endW v kk).value = wv := by
          match kk, hk4 with
          | 0, _ => exact ⟨some ⟨g3, 0, none⟩, some ⟨w11.heap.size, 0, none⟩, 1, 1, 1, 0, 1, v, RPS.out.cell (k := 0) (by simp), RSS.out.cell (k := 0) (by simp), RSS.out.cell (k := 1) (by simp), RSS.out.cell (k := 2) (by simp), RSS.out.cell (k := 3) (by simp), RSS.out.cell (k := 4) (by simp), RWT.out.cell (k := 0) (by simp), RWT.out.cell (k := 1) (by simp), RWT.out.cell (k := 2) (by simp), RWT.out.cell (k := 3) (by simp), RWT.out.cell (k := 4) (by simp), RP0.out, rfl, RS0.out, rfl, Nat.le_refl _, rfl, rfl, rfl, rfl, rfl, rfl, rfl, rfl, rfl⟩
          | 1, _ => exact ⟨some ⟨g2, 0, none⟩, some ⟨w13.heap.size, 0, none⟩, 1, 1, 5, 4, 2, 0, RPS.out.cell (k := 1) (by simp), RSS.out.cell (k := 5) (by simp), RSS.out.cell (k := 6) (by simp), RSS.out.cell (k := 7) (by simp), RSS.out.cell (k := 8) (by simp), RSS.out.cell (k := 9) (by simp), RWT.out.cell (k := 5) (by simp), RWT.out.cell (k := 6) (by simp), RWT.out.cell (k := 7) (by simp), RWT.out.cell (k := 8) (by simp), RWT.out.cell (k := 9) (by simp), RP1.out, rfl, RS1.out, rfl, Nat.le_refl _, rfl, rfl, rfl, rfl, rfl, rfl, rfl, rfl, rfl⟩
          | 2, _ => exact ⟨some ⟨g1, 0, none⟩, ao', 12, cap', 5, 4, 3, 0, RPS.out.cell (k := 2) (by simp), RSS.out.cell (k := 10) (by simp), RSS.out.cell (k := 11) (by simp), RSS.out.cell (k := 12) (by simp), RSS.out.cell (k := 13) (by simp), RSS.out.cell (k := 14) (by simp), RWT.out.cell (k := 10) (by simp), RWT.out.cell (k := 11) (by simp), RWT.out.cell (k := 12) (by simp), RWT.out.cell (k := 13) (by simp), RWT.out.cell (k := 14) (by simp), RP2.out, rfl, RS2.out, rfl, HCAP.out, rfl, rfl, rfl, rfl, rfl, rfl, rfl, rfl, rfl⟩
          | 3, _ => exact ⟨some ⟨g1, 0, none⟩, ao', 12, cap', 0, 0, 4, 0, RPS.out.cell (k := 3) (by simp), RSS.out.cell (k := 15) (by simp), RSS.out.cell (k := 16) (by simp), RSS.out.cell (k := 17) (by simp), RSS.out.cell (k := 18) (by simp), RSS.out.cell (k := 19) (by simp), RWT.out.cell (k := 15) (by simp), RWT.out.cell (k := 16) (by simp), RWT.out.cell (k := 17) (by simp), RWT.out.cell (k := 18) (by simp), RWT.out.cell (k := 19) (by simp), RP3.out, rfl, RS3.out, rfl, HCAP.out, rfl, rfl, rfl, rfl, rfl, rfl, rfl, rfl, rfl⟩
        have hS : ∃ t, endW v kk = t := ⟨_, rfl⟩
        obtain ⟨l1, l2, l3, l4⟩ := ends_law HV.out hk4
        have hp := stepY l1
        have hq := stepY l3
        rw [l2] at hp
        rw [l4] at hq
        have HQ := Lib.hid hq
        have HW := Lib.hid (And.intro hW1 hW2)
        have HPS := Lib.hid (And.intro hRP hPL)
        have HC := Lib.hid (fun (W : World) (hb : Below w16.heap.size w16 W) => step_m (cp := 1) (c := fc) (co := 0) (np := 1) (nf := fn) (no := 0) (mf := 0) (mo := 0) (fu := fu) (dn := 0) (va := 0) (fu2 := wf) (dn2 := wd) (va2 := wv) (code := 0) ((HL.out.below BB.out).below (below_trans B16.out hb)) (hRP.below hb) (hRS.below hb) hfc hPL hFL hOL hS1 hS2 hS3 hp.1 hp.2 (by rw [hW1]; rfl) (by rw [hW2]; rfl) hW3 hW4 hW5)
        have HC2 := Lib.hid (fun (w : World) (hw : Below w16.heap.size w16 w) (A Ao : Option Addr) (c co : Nat) (hs : ReadsS w (endW v kk) A Ao) (W : World) (hb : Below w.heap.size w W) => step_m (cp := 1) (c := c) (co := co) (np := 1) (nf := 0) (no := 0) (mf := 0) (mo := 0) (fu := wf) (dn := wd) (va := wv) (fu2 := wf) (dn2 := wd) (va2 := wv) (code := 0) ((HL.out.below BB.out).below (below_trans B16.out (below_trans hw hb))) (hRP.below (below_trans hw hb)) (hs.below hb) (Nat.zero_le _) hPL (by rw [hW1]; rfl) (by rw [hW2]; rfl) hW3 hW4 hW5 hq.1 hq.2 (by rw [hW1]; rfl) (by rw [hW2]; rfl) hW3 hW4 hW5)
        have HSM := Lib.hid (fun (W : World) (A Ao B Bo : Option Addr) (c co d dO : Nat) (hx : ReadsS W (endW v kk) A Ao) (hy : ReadsS W (endW v kk) B Bo) => same_s (x := endW v kk) (y := endW v kk) (A := A) (Ao := Ao) (B := B) (Bo := Bo) (c := c) (co := co) (d := d) (dO := dO) (n := 0) (m := 0) (k := 0) (j := 0) (f1 := wf) (d1 := wd) (v1 := wv) (f2 := wf) (d2 := wd) (v2 := wv) (b := true) hx hy (by rw [hW1]; rfl) (by rw [hW2]; rfl) (by rw [hW1]; rfl) (by rw [hW2]; rfl) hW3 hW4 hW5 hW3 hW4 hW5 (by simp))
        clear hp hq hRP hPL hRS hFL hfc hOL hS1 hS2 hS3 hW1 hW2 hW3 hW4 hW5 l1 l2 l3 l4 hS RS0 RS1 RS2 RS3 RP0 RP1 RP2 RP3 RPS RSS RWT HV
        have Q0 := Lib.hid q0
        have XX := Lib.hid (And.intro x0 (And.intro x1 (And.intro x2 (And.intro x3 x4))))
        have hk4' : (kk : Int) < 4 := by omega
        clear x0 x1 x2 x3 x4
        go_upto_region 16 with fail
        go_cut [14, 15] (fun t e wd_ => ∃ bt A c Ao co, t = .pointer (some ⟨bt, 0, none⟩) ∧ e = .int .i64 0 ∧ RowAt 57 bt [.slice A 0 c, .int .i64 wf, .slice Ao 0 co, .int .i64 wd, .int .i64 wv] wd_ ∧ ReadsS wd_ (endW v kk) A Ao ∧ Below w16.heap.size w16 wd_)
        case first =>
          have bz : Below w16.heap.size w16 (w16.alloc (.cells #[.slice none 0 0, .int .i64 0, .slice none 0 0, .int .i64 0, .int .i64 0] 57)).drew := below_drw (below_alloc (Below.refl _ _) _)
          have BZ := Lib.hid bz
          have RZ := Lib.hid ((RowAt.new 57 [.slice none 0 0, .int .i64 0, .slice none 0 0, .int .i64 0, .int .i64 0] w16).below (below_drw (Below.refl _ _)))
          have H1 := Lib.hid (HC.out w16.drew (below_drw (Below.refl _ _)))
          have H2 := Lib.hid (HC.out _ bz)
          have z9 := cell_below bz q0
          have z0 := cell_below bz s0
          have z1 := cell_below bz s1
          have z2 := cell_below bz s2
          have z3 := cell_below bz s3
          have z4 := cell_below bz s4
          clear bz
          go_region_law (first
            | (rw [if_pos (by rfl)]; go_simp; go_at_call 31; (with_reducible refine H1.out.mono ?_); rintro e wy ⟨A, c, Ao, co, rfl, -, -, hR, hB⟩; have HR := Lib.hid hR; have HB := Lib.hid (below_trans (below_drw (Below.refl _ _)) hB); clear hR hB; go_simp)
            | (rw [if_pos (by rfl)]; go_simp; go_at_call 31; (with_reducible refine H2.out.mono ?_); rintro e wy ⟨A, c, Ao, co, rfl, -, -, hR, hB⟩; have HR := Lib.hid hR; have rz := RZ.out.below hB; have HRZ := Lib.hid rz; have HB := Lib.hid (below_trans BZ.out hB); have n0 := rz.free 0; have n1 := rz.free 1; have n2 := rz.free 2; have n3 := rz.free 3; have n4 := rz.free 4; have m0 := rz.cell (k := 0) (by simp); have m1 := rz.cell (k := 1) (by simp); have m2 := rz.cell (k := 2) (by simp); have m3 := rz.cell (k := 3) (by simp); have m4 := rz.cell (k := 4) (by simp); simp only [List.getElem_cons_zero, List.getElem_cons_succ] at m0 m1 m2 m3 m4; clear hR hB rz; go_simp))
          all_goals
            go_wp2_with fail
            go_meet
            first
              | (have pz := ((((HRZ.out.put 0 (.slice A 0 c)).put 1 (.int .i64 wf)).put 2 (.slice Ao 0 co)).put 3 (.int .i64 wd)).put 4 (.int .i64 wv)
                 exact ⟨w16.heap.size, A, c, Ao, co, rfl, rfl, pz, reads_s0 HW.out.1 HW.out.2, ((((HB.out.setCell (Nat.le_refl _) _).setCell (Nat.le_refl _) _).setCell (Nat.le_refl _) _).setCell (Nat.le_refl _) _).setCell (Nat.le_refl _) _⟩)
              | exact ⟨wy.heap.size, A, c, Ao, co, rfl, rfl, RowAt.new _ _ wy, HR.out.below (below_alloc (Below.refl _ _) _), below_trans HB.out (below_alloc (Below.refl _ _) _)⟩
        case rest =>
          obtain ⟨bt, A, c, Ao, co, rfl, rfl, hrt, hst, hb17⟩ := hcut
          obtain ⟨wc17, hw17⟩ : ∃ x, x = wc := ⟨_, rfl⟩
          subst hw17
          have RT := Lib.hid hrt
          have ST := Lib.hid hst
          have B17 := Lib.hid hb17
          replace XX := Lib.hid (And.intro (cell_below hb17 XX.out.1) (And.intro (cell_below hb17 XX.out.2.1) (And.intro (cell_below hb17 XX.out.2.2.1) (And.intro (cell_below hb17 XX.out.2.2.2.1) (cell_below hb17 XX.out.2.2.2.2)))))
          clear HC q0 s0 s1 s2 s3 s4
          have q0 := cell_below hb17 Q0.out
          have HC := Lib.hid (HC2.out wc17 hb17 A Ao c co hst)
          have s0 := hrt.cell (k := 0) (by simp)
          have s1 := hrt.cell (k := 1) (by simp)
          have s2 := hrt.cell (k := 2) (by simp)
          have s3 := hrt.cell (k := 3) (by simp)
          have s4 := hrt.cell (k := 4) (by simp)
          simp only [List.getElem_cons_zero, List.getElem_cons_succ] at s0 s1 s2 s3 s4
          clear hrt hst hb17
          go_upto_region 17 with fail
          go_cut [16, 17] (fun t e wd_ => ∃ bt A c Ao co, t = .pointer (some ⟨bt, 0, none⟩) ∧ e = .int .i64 0 ∧ RowAt 57 bt [.slice A 0 c, .int .i64 wf, .slice Ao 0 co, .int .i64 wd, .int .i64 wv] wd_ ∧ ReadsS wd_ (endW v kk) A Ao ∧ Below wc17.heap.size wc17 wd_)
          case first =>
            have bz : Below wc17.heap.size wc17 (wc17.alloc (.cells #[.slice none 0 0, .int .i64 0, .slice none 0 0, .int .i64 0, .int .i64 0] 57)).drew := below_drw (below_alloc (Below.refl _ _) _)
            have BZ := Lib.hid bz
            have RZ := Lib.hid ((RowAt.new 57 [.slice none 0 0, .int .i64 0, .slice none 0 0, .int .i64 0, .int .i64 0] wc17).below (below_drw (Below.refl _ _)))
            have H1 := Lib.hid (HC.out wc17.drew (below_drw (Below.refl _ _)))
            have H2 := Lib.hid (HC.out _ bz)
            have z9 := cell_below bz q0
            have z0 := cell_below bz s0
            have z1 := cell_below bz s1
            have z2 := cell_below bz s2
            have z3 := cell_below bz s3
            have z4 := cell_below bz s4
            clear bz
            go_region_law (first
              | (rw [if_pos (by rfl)]; go_simp; go_at_call 31; (with_reducible refine H1.out.mono ?_); rintro e wy ⟨A, c, Ao, co, rfl, -, -, hR, hB⟩; have HR := Lib.hid hR; have HB := Lib.hid (below_trans (below_drw (Below.refl _ _)) hB); clear hR hB; go_simp)
              | (rw [if_pos (by rfl)]; go_simp; go_at_call 31; (with_reducible refine H2.out.mono ?_); rintro e wy ⟨A, c, Ao, co, rfl, -, -, hR, hB⟩; have HR := Lib.hid hR; have rz := RZ.out.below hB; have HRZ := Lib.hid rz; have HB := Lib.hid (below_trans BZ.out hB); have n0 := rz.free 0; have n1 := rz.free 1; have n2 := rz.free 2; have n3 := rz.free 3; have n4 := rz.free 4; have m0 := rz.cell (k := 0) (by simp); have m1 := rz.cell (k := 1) (by simp); have m2 := rz.cell (k := 2) (by simp); have m3 := rz.cell (k := 3) (by simp); have m4 := rz.cell (k := 4) (by simp); simp only [List.getElem_cons_zero, List.getElem_cons_succ] at m0 m1 m2 m3 m4; clear hR hB rz; go_simp))
            all_goals
              go_wp2_with fail
              go_meet
              first
                | (have pz := ((((HRZ.out.put 0 (.slice A 0 c)).put 1 (.int .i64 wf)).put 2 (.slice Ao 0 co)).put 3 (.int .i64 wd)).put 4 (.int .i64 wv)
                   exact ⟨wc17.heap.size, A, c, Ao, co, rfl, rfl, pz, reads_s0 HW.out.1 HW.out.2, ((((HB.out.setCell (Nat.le_refl _) _).setCell (Nat.le_refl _) _).setCell (Nat.le_refl _) _).setCell (Nat.le_refl _) _).setCell (Nat.le_refl _) _⟩)
                | exact ⟨wy.heap.size, A, c, Ao, co, rfl, rfl, RowAt.new _ _ wy, HR.out.below (below_alloc (Below.refl _ _) _), below_trans HB.out (below_alloc (Below.refl _ _) _)⟩
          case rest =>
            obtain ⟨bu, A2, c2, Ao2, co2, rfl, rfl, hru, hsu, hb18⟩ := hcut
            obtain ⟨wc18, hw18⟩ : ∃ x, x = wc := ⟨_, rfl⟩
            subst hw18
            have SU := Lib.hid hsu
            have ST8 := Lib.hid (ST.out.below hb18)
            have B18 := Lib.hid (below_trans (below_trans BB.out B16.out) (below_trans B17.out hb18))
            have HNUM := Lib.hid (fun (n : Int) (W : World) => numL_any n W)
            have RT8 := RT.out.below hb18
            clear q0 s0 s1 s2 s3 s4
            obtain ⟨x0, x1, x2, x3, x4⟩ := XX.out
            have HALLB := Lib.hid (show ∀ W', Bel wc18 W' → W'.cell? ⟨bt, 0, none⟩ = some (.slice A 0 c) ∧ W'.cell? ⟨bt, 1, none⟩ = some (.int .i64 wf) ∧ W'.cell? ⟨bt, 2, none⟩ = some (.slice Ao 0 co) ∧ W'.cell? ⟨bt, 3, none⟩ = some (.int .i64 wd) ∧ W'.cell? ⟨bt, 4, none⟩ = some (.int .i64 wv) ∧ W'.cell? ⟨bu, 0, none⟩ = some (.slice A2 0 c2) ∧ W'.cell? ⟨bu, 1, none⟩ = some (.int .i64 wf) ∧ W'.cell? ⟨bu, 2, none⟩ = some (.slice Ao2 0 co2) ∧ W'.cell? ⟨bu, 3, none⟩ = some (.int .i64 wd) ∧ W'.cell? ⟨bu, 4, none⟩ = some (.int .i64 wv) ∧ W'.cell? ⟨w15.heap.size, kk * 5, none⟩ = some (.slice none 0 0) ∧ W'.cell? ⟨w15.heap.size, kk * 5 + 1, none⟩ = some (.int .i64 wf) ∧ W'.cell? ⟨w15.heap.size, kk * 5 + 2, none⟩ = some (.slice none 0 0) ∧ W'.cell? ⟨w15.heap.size, kk * 5 + 3, none⟩ = some (.int .i64 wd) ∧ W'.cell? ⟨w15.heap.size, kk * 5 + 4, none⟩ = some (.int .i64 wv) ∧ True from fun W' hW => ⟨cell_below hW (RT8.cell (k := 0) (by simp)), cell_below hW (RT8.cell (k := 1) (by simp)), cell_below hW (RT8.cell (k := 2) (by simp)), cell_below hW (RT8.cell (k := 3) (by simp)), cell_below hW (RT8.cell (k := 4) (by simp)), cell_below hW (hru.cell (k := 0) (by simp)), cell_below hW (hru.cell (k := 1) (by simp)), cell_below hW (hru.cell (k := 2) (by simp)), cell_below hW (hru.cell (k := 3) (by simp)), cell_below hW (hru.cell (k := 4) (by simp)), cell_below hW (cell_below hb18 x0), cell_below hW (cell_below hb18 x1), cell_below hW (cell_below hb18 x2), cell_below hW (cell_below hb18 x3), cell_below hW (cell_below hb18 x4), trivial⟩)
            clear hru hsu hb18 x0 x1 x2 x3 x4 RT8
            go_upto_region 18 with fail
            have C1 := Lib.hid (show ∀ W', Bel wc18 W' → Calls _ _ _ W' (fun e w'' => e = _ ∧ Bel wc18 w'') from fun W' hb => (HSM.out W' A Ao none none c co 0 0 (ST8.out.below hb) (reads_s0 HW.out.1 HW.out.2)).mono fun e w'' h => ⟨h.1, bel_trans hb h.2⟩)
            have C2 := Lib.hid (show ∀ W', Bel wc18 W' → Calls _ _ _ W' (fun e w'' => e = _ ∧ Bel wc18 w'') from fun W' hb => (HSM.out W' A2 Ao2 A Ao c2 co2 c co (SU.out.below hb) (ST8.out.below hb)).mono fun e w'' h => ⟨h.1, bel_trans hb h.2⟩)
            have C3 := Lib.hid (show ∀ W', Bel wc18 W' → Calls _ _ _ W' (fun e w'' => e = _ ∧ Bel wc18 w'') from fun W' hb => (HNUM.out 0 W').mono fun e w'' h => ⟨h.1, by obtain ⟨_, hw⟩ := h; first | (rw [hw]; exact hb) | (rw [← hw]; exact hb)⟩)
            refine wp_region_bel (by kernel_rfl) (by kernel_rfl) ?_
            repeat
              first
                | go_big_quiet_skip
                | (go_big_quiet_want
                   apply Exists.intro
                   refine ⟨fun W' hW' => ?_, ?_⟩
                   · obtain ⟨z0, z1, z2, z3, z4, z5, z6, z7, z8, z9, z10, z11, z12, z13, z14, -⟩ := HALLB.out W' hW'
                     go_simp
                     first
                       | exact rfl
                       | (with_reducible exact C1.out W' hW')
                       | (with_reducible exact C2.out W' hW')
                       | (with_reducible exact C3.out W' hW')
                   go_simp
                   go_big_quiet_on)
            refine wpQuiet_nil ?_
            intro wq hq
            have HQ := Lib.hid (show Below wc18.heap.size wc18 wq from hq)
            clear hq HALLB C1 C2 C3
            go_wp2_with fail
            go_ret
            exact ⟨rfl, below_trans B18.out HQ.out⟩
end Go.Proofs.YtjghibdlmmjobaaGreatDoor
