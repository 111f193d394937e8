/- 'awake' of the statements on step. Condition: errors.errorType is laid. -/
import Derived.Test.YtjghibdlmmjobaaGreatDoorStM
import Derived.Test.YtjghibdlmmjobaaGreatDoorTwo7
namespace Go.Proofs.YtjghibdlmmjobaaGreatDoor
open Go.RowKit

def s70 : Stt := ⟨[⟨0, 0, [5], []⟩], 9, [], 0, 0⟩
def s71 : Stt := ⟨[⟨0, 1, [5], [5]⟩], 8, [], 0, 0⟩
def s72 : Stt := ⟨[⟨0, 2, [5], [5, 2]⟩], 7, [], 0, 0⟩
def s73 : Stt := ⟨[⟨0, 3, [5], []⟩, ⟨1, 0, [5, 2], []⟩], 6, [], 0, 0⟩
def s74 : Stt := ⟨[⟨0, 0, [5], []⟩], 0, [], 0, 0⟩
def s75 : Stt := ⟨[], 0, [], 4, 0⟩
theorem st70 : startS twoP [5] 9 = s70 := by kernel_rfl
theorem sc70 : startC twoP [5] 9 = 0 := by kernel_rfl
theorem st71 : stepS twoP s70 = s71 := by kernel_rfl
theorem sc71 : stepC twoP s70 = 0 := by kernel_rfl
theorem st72 : stepS twoP s71 = s72 := by kernel_rfl
theorem sc72 : stepC twoP s71 = 0 := by kernel_rfl
theorem st73 : stepS twoP s72 = s73 := by kernel_rfl
theorem sc73 : stepC twoP s72 = 0 := by kernel_rfl
theorem st74 : stepS twoP zeroS = zeroS := by kernel_rfl
theorem sc74 : stepC twoP zeroS = 700 := by kernel_rfl
theorem st75 : stepS twoP s74 = s75 := by kernel_rfl
theorem sc75 : stepC twoP s74 = 0 := by kernel_rfl
theorem reads_74 {w : World} {A Ao : Option Addr} (h : ReadsS w s70 A Ao) : ReadsS w s74 A none := ⟨h.fr, reads_i0⟩
set_option maxRecDepth 100000 in
set_option maxHeartbeats 8000000 in
theorem awake7_any (w : World) (hl : Laid w) : Calls Tryz.prog 29 #[] w (Ret (.bool true) w) := by
  have HL := Lib.hid hl
  have HNUM := Lib.hid (fun (n : Int) (W : World) => numL_any n W)
  have BB := Lib.hid (Below.refl w.heap.size w)
  have HT := Lib.hid (two7_any w)
  clear hl
  go_enter Tryz.func29, Tryz.ntmps29
  go_wp2_with fail
  (with_reducible refine HT.out.mono ?_)
  rintro e w1 ⟨g, rfl, hr1, hB1⟩
  replace BB := Lib.hid (below_trans BB.out hB1)
  clear HT hB1
  have RF := Lib.hid hr1
  clear hr1
  obtain ⟨w2, hw2⟩ : ∃ w2, w1.alloc (.cells #[.slice (some ⟨g, 0, none⟩) 2 2] 24) = w2 := ⟨_, rfl⟩
  have b2 : Below w1.heap.size w1 w2 := hw2 ▸ below_alloc (Below.refl _ _) _
  replace BB := Lib.hid (below_trans BB.out b2)
  replace RF := Lib.hid (RF.out.below b2)
  have P := Lib.hid (hw2 ▸ RowAt.new _ _ w1 : RowAt 24 w1.heap.size [.slice (some ⟨g, 0, none⟩) 2 2] w2)
  clear b2
  go_upto_region 2 with fail
  have cP_0 := P.out.cell (k := 0) (by simp)
  simp only [List.getElem_cons_zero] at cP_0
  have cP_0' := cP_0
  obtain ⟨w3, hw3⟩ : ∃ w3, w2.alloc (.cells #[.int .i64 5] 3) = w3 := ⟨_, rfl⟩
  have b3 : Below w2.heap.size w2 w3 := hw3 ▸ below_alloc (Below.refl _ _) _
  replace BB := Lib.hid (below_trans BB.out b3)
  replace RF := Lib.hid (RF.out.below b3)
  replace P := Lib.hid (P.out.below b3)
  have AI := Lib.hid (hw3 ▸ RowAt.new _ _ w2 : RowAt 3 w2.heap.size [.int .i64 5] w3)
  clear b3
  have cP_1 := P.out.cell (k := 0) (by simp)
  simp only [List.getElem_cons_zero] at cP_1
  have H0 := Lib.hid (rstart_m (p := twoP) (Ap := (some ⟨g, 0, none⟩)) (A := some ⟨w2.heap.size, 0, none⟩) (cp := 2) (c := 1) (fuel := 9) RF.out (intsL (xs := [5]) AI.out (by simp)) twoP_len (len1 _) st70 sc70 (mf := 1) (mo := 0) rfl rfl (fu2 := 9) rfl (dn2 := 0) rfl (va2 := 0) rfl)
  go_wp2_with fail
  (with_reducible refine H0.out.mono ?_)
  rintro e w4 ⟨A4, c4, Ao4, co4, rfl, hc4, hd4, hR4, hB4⟩
  replace BB := Lib.hid (below_trans BB.out hB4)
  replace RF := Lib.hid (RF.out.below hB4)
  replace P := Lib.hid (P.out.below hB4)
  replace AI := Lib.hid (AI.out.below hB4)
  clear H0 hB4 cP_0 cP_1 cP_0'
  have R0 := Lib.hid hR4
  have HC0 := Lib.hid hc4
  clear hR4 hc4 hd4
  clear AI
  have b5 : Below w4.heap.size w4 (w4.alloc (.cells #[.slice A4 1 c4, .int .i64 9, .slice Ao4 0 co4, .int .i64 0, .int .i64 0] 57)) := below_alloc (Below.refl _ _) _
  replace BB := Lib.hid (below_trans BB.out b5)
  replace RF := Lib.hid (RF.out.below b5)
  replace P := Lib.hid (P.out.below b5)
  replace R0 := Lib.hid (R0.out.below b5)
  have S0 := Lib.hid (RowAt.new _ _ w4 : RowAt 57 w4.heap.size [.slice A4 1 c4, .int .i64 9, .slice Ao4 0 co4, .int .i64 0, .int .i64 0] (w4.alloc (.cells #[.slice A4 1 c4, .int .i64 9, .slice Ao4 0 co4, .int .i64 0, .int .i64 0] 57)))
  clear b5
  go_upto_region 3 with fail
  have cP_0 := P.out.cell (k := 0) (by simp)
  simp only [List.getElem_cons_zero] at cP_0
  have cS0_0 := S0.out.cell (k := 0) (by simp)
  simp only [List.getElem_cons_zero] at cS0_0
  have cS0_1 := S0.out.cell (k := 1) (by simp)
  simp only [List.getElem_cons_zero, List.getElem_cons_succ] at cS0_1
  have cS0_2 := S0.out.cell (k := 2) (by simp)
  simp only [List.getElem_cons_zero, List.getElem_cons_succ] at cS0_2
  have cS0_3 := S0.out.cell (k := 3) (by simp)
  simp only [List.getElem_cons_zero, List.getElem_cons_succ] at cS0_3
  have cS0_4 := S0.out.cell (k := 4) (by simp)
  simp only [List.getElem_cons_zero, List.getElem_cons_succ] at cS0_4
  have H1 := Lib.hid (step_m (p := twoP) (Ap := (some ⟨g, 0, none⟩)) (cp := 2) (co := co4) (HL.out.below BB.out) RF.out R0.out HC0.out twoP_len (nf := 1) rfl (no := 0) rfl (fu := 9) rfl (dn := 0) rfl (va := 0) rfl st71 sc71 (mf := 1) rfl (mo := 0) rfl (fu2 := 8) rfl (dn2 := 0) rfl (va2 := 0) rfl)
  go_wp2_with fail
  (with_reducible refine H1.out.mono ?_)
  rintro e w6 ⟨A6, c6, Ao6, co6, rfl, hc6, hd6, hR6, hB6⟩
  replace BB := Lib.hid (below_trans BB.out hB6)
  replace RF := Lib.hid (RF.out.below hB6)
  replace P := Lib.hid (P.out.below hB6)
  replace R0 := Lib.hid (R0.out.below hB6)
  replace S0 := Lib.hid (S0.out.below hB6)
  clear H1 hB6 cP_0 cS0_0 cS0_1 cS0_2 cS0_3 cS0_4
  have R1 := Lib.hid hR6
  have HC1 := Lib.hid hc6
  clear hR6 hc6 hd6
  have b7 : Below w6.heap.size w6 (w6.alloc (.cells #[.slice A6 1 c6, .int .i64 8, .slice Ao6 0 co6, .int .i64 0, .int .i64 0] 57)) := below_alloc (Below.refl _ _) _
  replace BB := Lib.hid (below_trans BB.out b7)
  replace RF := Lib.hid (RF.out.below b7)
  replace P := Lib.hid (P.out.below b7)
  replace R0 := Lib.hid (R0.out.below b7)
  replace S0 := Lib.hid (S0.out.below b7)
  replace R1 := Lib.hid (R1.out.below b7)
  have S1 := Lib.hid (RowAt.new _ _ w6 : RowAt 57 w6.heap.size [.slice A6 1 c6, .int .i64 8, .slice Ao6 0 co6, .int .i64 0, .int .i64 0] (w6.alloc (.cells #[.slice A6 1 c6, .int .i64 8, .slice Ao6 0 co6, .int .i64 0, .int .i64 0] 57)))
  clear b7
  go_upto_region 4 with fail
  have cP_0 := P.out.cell (k := 0) (by simp)
  simp only [List.getElem_cons_zero] at cP_0
  have cS1_0 := S1.out.cell (k := 0) (by simp)
  simp only [List.getElem_cons_zero] at cS1_0
  have cS1_1 := S1.out.cell (k := 1) (by simp)
  simp only [List.getElem_cons_zero, List.getElem_cons_succ] at cS1_1
  have cS1_2 := S1.out.cell (k := 2) (by simp)
  simp only [List.getElem_cons_zero, List.getElem_cons_succ] at cS1_2
  have cS1_3 := S1.out.cell (k := 3) (by simp)
  simp only [List.getElem_cons_zero, List.getElem_cons_succ] at cS1_3
  have cS1_4 := S1.out.cell (k := 4) (by simp)
  simp only [List.getElem_cons_zero, List.getElem_cons_succ] at cS1_4
  have H2 := Lib.hid (step_m (p := twoP) (Ap := (some ⟨g, 0, none⟩)) (cp := 2) (co := co6) (HL.out.below BB.out) RF.out R1.out HC1.out twoP_len (nf := 1) rfl (no := 0) rfl (fu := 8) rfl (dn := 0) rfl (va := 0) rfl st72 sc72 (mf := 1) rfl (mo := 0) rfl (fu2 := 7) rfl (dn2 := 0) rfl (va2 := 0) rfl)
  go_wp2_with fail
  (with_reducible refine H2.out.mono ?_)
  rintro e w8 ⟨A8, c8, Ao8, co8, rfl, hc8, hd8, hR8, hB8⟩
  replace BB := Lib.hid (below_trans BB.out hB8)
  replace RF := Lib.hid (RF.out.below hB8)
  replace P := Lib.hid (P.out.below hB8)
  replace R0 := Lib.hid (R0.out.below hB8)
  replace S0 := Lib.hid (S0.out.below hB8)
  replace R1 := Lib.hid (R1.out.below hB8)
  replace S1 := Lib.hid (S1.out.below hB8)
  clear H2 hB8 cP_0 cS1_0 cS1_1 cS1_2 cS1_3 cS1_4
  have R2 := Lib.hid hR8
  have HC2 := Lib.hid hc8
  clear hR8 hc8 hd8
  have b9 : Below w8.heap.size w8 (w8.alloc (.cells #[.slice A8 1 c8, .int .i64 7, .slice Ao8 0 co8, .int .i64 0, .int .i64 0] 57)) := below_alloc (Below.refl _ _) _
  replace BB := Lib.hid (below_trans BB.out b9)
  replace RF := Lib.hid (RF.out.below b9)
  replace P := Lib.hid (P.out.below b9)
  replace R0 := Lib.hid (R0.out.below b9)
  replace S0 := Lib.hid (S0.out.below b9)
  replace R1 := Lib.hid (R1.out.below b9)
  replace S1 := Lib.hid (S1.out.below b9)
  replace R2 := Lib.hid (R2.out.below b9)
  have S2 := Lib.hid (RowAt.new _ _ w8 : RowAt 57 w8.heap.size [.slice A8 1 c8, .int .i64 7, .slice Ao8 0 co8, .int .i64 0, .int .i64 0] (w8.alloc (.cells #[.slice A8 1 c8, .int .i64 7, .slice Ao8 0 co8, .int .i64 0, .int .i64 0] 57)))
  clear b9
  go_upto_region 5 with fail
  have cP_0 := P.out.cell (k := 0) (by simp)
  simp only [List.getElem_cons_zero] at cP_0
  have cS2_0 := S2.out.cell (k := 0) (by simp)
  simp only [List.getElem_cons_zero] at cS2_0
  have cS2_1 := S2.out.cell (k := 1) (by simp)
  simp only [List.getElem_cons_zero, List.getElem_cons_succ] at cS2_1
  have cS2_2 := S2.out.cell (k := 2) (by simp)
  simp only [List.getElem_cons_zero, List.getElem_cons_succ] at cS2_2
  have cS2_3 := S2.out.cell (k := 3) (by simp)
  simp only [List.getElem_cons_zero, List.getElem_cons_succ] at cS2_3
  have cS2_4 := S2.out.cell (k := 4) (by simp)
  simp only [List.getElem_cons_zero, List.getElem_cons_succ] at cS2_4
  have H3 := Lib.hid (step_m (p := twoP) (Ap := (some ⟨g, 0, none⟩)) (cp := 2) (co := co8) (HL.out.below BB.out) RF.out R2.out HC2.out twoP_len (nf := 1) rfl (no := 0) rfl (fu := 7) rfl (dn := 0) rfl (va := 0) rfl st73 sc73 (mf := 2) rfl (mo := 0) rfl (fu2 := 6) rfl (dn2 := 0) rfl (va2 := 0) rfl)
  go_wp2_with fail
  (with_reducible refine H3.out.mono ?_)
  rintro e w10 ⟨A10, c10, Ao10, co10, rfl, hc10, hd10, hR10, hB10⟩
  replace BB := Lib.hid (below_trans BB.out hB10)
  replace RF := Lib.hid (RF.out.below hB10)
  replace P := Lib.hid (P.out.below hB10)
  replace R0 := Lib.hid (R0.out.below hB10)
  replace S0 := Lib.hid (S0.out.below hB10)
  replace R1 := Lib.hid (R1.out.below hB10)
  replace S1 := Lib.hid (S1.out.below hB10)
  replace R2 := Lib.hid (R2.out.below hB10)
  replace S2 := Lib.hid (S2.out.below hB10)
  clear H3 hB10 cP_0 cS2_0 cS2_1 cS2_2 cS2_3 cS2_4
  have R3 := Lib.hid hR10
  have HC3 := Lib.hid hc10
  clear hR10 hc10 hd10
  have b11 : Below w10.heap.size w10 (w10.alloc (.cells #[.slice A10 2 c10, .int .i64 6, .slice Ao10 0 co10, .int .i64 0, .int .i64 0] 57)) := below_alloc (Below.refl _ _) _
  replace BB := Lib.hid (below_trans BB.out b11)
  replace RF := Lib.hid (RF.out.below b11)
  replace P := Lib.hid (P.out.below b11)
  replace R0 := Lib.hid (R0.out.below b11)
  replace S0 := Lib.hid (S0.out.below b11)
  replace R1 := Lib.hid (R1.out.below b11)
  replace S1 := Lib.hid (S1.out.below b11)
  replace R2 := Lib.hid (R2.out.below b11)
  replace S2 := Lib.hid (S2.out.below b11)
  replace R3 := Lib.hid (R3.out.below b11)
  have S3 := Lib.hid (RowAt.new _ _ w10 : RowAt 57 w10.heap.size [.slice A10 2 c10, .int .i64 6, .slice Ao10 0 co10, .int .i64 0, .int .i64 0] (w10.alloc (.cells #[.slice A10 2 c10, .int .i64 6, .slice Ao10 0 co10, .int .i64 0, .int .i64 0] 57)))
  clear b11
  go_upto_region 6 with fail
  have cP_0 := P.out.cell (k := 0) (by simp)
  simp only [List.getElem_cons_zero] at cP_0
  have H4 := Lib.hid (step_m (p := twoP) (Ap := (some ⟨g, 0, none⟩)) (cp := 2) (c := 0) (co := 0) (A := none) (Ao := none) (HL.out.below BB.out) RF.out (reads_s0 (s := zeroS) rfl rfl) (Nat.le_refl 0) twoP_len (nf := 0) rfl (no := 0) rfl (fu := 0) rfl (dn := 0) rfl (va := 0) rfl st74 sc74 (mf := 0) rfl (mo := 0) rfl (fu2 := 0) rfl (dn2 := 0) rfl (va2 := 0) rfl)
  go_wp2_with fail
  (with_reducible refine H4.out.mono ?_)
  rintro e w12 ⟨A12, c12, Ao12, co12, rfl, hc12, hd12, hR12, hB12⟩
  replace BB := Lib.hid (below_trans BB.out hB12)
  replace RF := Lib.hid (RF.out.below hB12)
  replace P := Lib.hid (P.out.below hB12)
  replace R0 := Lib.hid (R0.out.below hB12)
  replace S0 := Lib.hid (S0.out.below hB12)
  replace R1 := Lib.hid (R1.out.below hB12)
  replace S1 := Lib.hid (S1.out.below hB12)
  replace R2 := Lib.hid (R2.out.below hB12)
  replace S2 := Lib.hid (S2.out.below hB12)
  replace R3 := Lib.hid (R3.out.below hB12)
  replace S3 := Lib.hid (S3.out.below hB12)
  clear H4 hB12 cP_0
  clear hR12 hc12 hd12
  have b13 : Below w12.heap.size w12 (w12.alloc (.cells #[.slice A12 0 c12, .int .i64 0, .slice Ao12 0 co12, .int .i64 0, .int .i64 0] 57)) := below_alloc (Below.refl _ _) _
  replace BB := Lib.hid (below_trans BB.out b13)
  replace RF := Lib.hid (RF.out.below b13)
  replace P := Lib.hid (P.out.below b13)
  replace R0 := Lib.hid (R0.out.below b13)
  replace S0 := Lib.hid (S0.out.below b13)
  replace R1 := Lib.hid (R1.out.below b13)
  replace S1 := Lib.hid (S1.out.below b13)
  replace R2 := Lib.hid (R2.out.below b13)
  replace S2 := Lib.hid (S2.out.below b13)
  replace R3 := Lib.hid (R3.out.below b13)
  replace S3 := Lib.hid (S3.out.below b13)
  have S4 := Lib.hid (RowAt.new _ _ w12 : RowAt 57 w12.heap.size [.slice A12 0 c12, .int .i64 0, .slice Ao12 0 co12, .int .i64 0, .int .i64 0] (w12.alloc (.cells #[.slice A12 0 c12, .int .i64 0, .slice Ao12 0 co12, .int .i64 0, .int .i64 0] 57)))
  clear b13
  go_upto_region 7 with fail
  have cP_0 := P.out.cell (k := 0) (by simp)
  simp only [List.getElem_cons_zero] at cP_0
  have cS0_0 := S0.out.cell (k := 0) (by simp)
  simp only [List.getElem_cons_zero] at cS0_0
  have H5 := Lib.hid (step_m (p := twoP) (Ap := (some ⟨g, 0, none⟩)) (cp := 2) (co := 0) (Ao := none) (HL.out.below BB.out) RF.out (reads_74 R0.out) HC0.out twoP_len (nf := 1) rfl (no := 0) rfl (fu := 0) rfl (dn := 0) rfl (va := 0) rfl st75 sc75 (mf := 0) rfl (mo := 0) rfl (fu2 := 0) rfl (dn2 := 4) rfl (va2 := 0) rfl)
  go_wp2_with fail
  (with_reducible refine H5.out.mono ?_)
  rintro e w14 ⟨A14, c14, Ao14, co14, rfl, hc14, hd14, hR14, hB14⟩
  replace BB := Lib.hid (below_trans BB.out hB14)
  replace RF := Lib.hid (RF.out.below hB14)
  replace P := Lib.hid (P.out.below hB14)
  replace R0 := Lib.hid (R0.out.below hB14)
  replace S0 := Lib.hid (S0.out.below hB14)
  replace R1 := Lib.hid (R1.out.below hB14)
  replace S1 := Lib.hid (S1.out.below hB14)
  replace R2 := Lib.hid (R2.out.below hB14)
  replace S2 := Lib.hid (S2.out.below hB14)
  replace R3 := Lib.hid (R3.out.below hB14)
  replace S3 := Lib.hid (S3.out.below hB14)
  replace S4 := Lib.hid (S4.out.below hB14)
  clear H5 hB14 cP_0 cS0_0
  have R5 := Lib.hid hR14
  clear hR14 hc14 hd14
  clear R0 R2 S0 S2 S4 P RF
  have b15 : Below w14.heap.size w14 (w14.alloc (.cells #[.slice A14 0 c14, .int .i64 0, .slice Ao14 0 co14, .int .i64 4, .int .i64 0] 57)) := below_alloc (Below.refl _ _) _
  replace BB := Lib.hid (below_trans BB.out b15)
  replace R1 := Lib.hid (R1.out.below b15)
  replace S1 := Lib.hid (S1.out.below b15)
  replace R3 := Lib.hid (R3.out.below b15)
  replace S3 := Lib.hid (S3.out.below b15)
  replace R5 := Lib.hid (R5.out.below b15)
  have S5 := Lib.hid (RowAt.new _ _ w14 : RowAt 57 w14.heap.size [.slice A14 0 c14, .int .i64 0, .slice Ao14 0 co14, .int .i64 4, .int .i64 0] (w14.alloc (.cells #[.slice A14 0 c14, .int .i64 0, .slice Ao14 0 co14, .int .i64 4, .int .i64 0] 57)))
  clear b15
  go_upto_region 8 with fail
  generalize hwL : (w14.alloc (.cells #[.slice A14 0 c14, .int .i64 0, .slice Ao14 0 co14, .int .i64 4, .int .i64 0] 57)) = wL at *
  clear hwL
  have cS1_0 := S1.out.cell (k := 0) (by simp)
  simp only [List.getElem_cons_zero] at cS1_0
  have cS1_1 := S1.out.cell (k := 1) (by simp)
  simp only [List.getElem_cons_zero, List.getElem_cons_succ] at cS1_1
  have cS1_2 := S1.out.cell (k := 2) (by simp)
  simp only [List.getElem_cons_zero, List.getElem_cons_succ] at cS1_2
  have cS1_3 := S1.out.cell (k := 3) (by simp)
  simp only [List.getElem_cons_zero, List.getElem_cons_succ] at cS1_3
  have cS1_4 := S1.out.cell (k := 4) (by simp)
  simp only [List.getElem_cons_zero, List.getElem_cons_succ] at cS1_4
  obtain ⟨w16, hw16⟩ : ∃ w16, wL.alloc (.cells #[.int .i64 5] 3) = w16 := ⟨_, rfl⟩
  have b16 : Below wL.heap.size wL w16 := hw16 ▸ below_alloc (Below.refl _ _) _
  replace BB := Lib.hid (below_trans BB.out b16)
  replace R1 := Lib.hid (R1.out.below b16)
  replace S1 := Lib.hid (S1.out.below b16)
  replace R3 := Lib.hid (R3.out.below b16)
  replace S3 := Lib.hid (S3.out.below b16)
  replace R5 := Lib.hid (R5.out.below b16)
  replace S5 := Lib.hid (S5.out.below b16)
  have I1 := Lib.hid (hw16 ▸ RowAt.new _ _ wL : RowAt 3 wL.heap.size [.int .i64 5] w16)
  clear b16
  obtain ⟨w17, hw17⟩ : ∃ w17, w16.alloc (.cells #[.int .i64 5] 3) = w17 := ⟨_, rfl⟩
  have b17 : Below w16.heap.size w16 w17 := hw17 ▸ below_alloc (Below.refl _ _) _
  replace BB := Lib.hid (below_trans BB.out b17)
  replace R1 := Lib.hid (R1.out.below b17)
  replace S1 := Lib.hid (S1.out.below b17)
  replace R3 := Lib.hid (R3.out.below b17)
  replace S3 := Lib.hid (S3.out.below b17)
  replace R5 := Lib.hid (R5.out.below b17)
  replace S5 := Lib.hid (S5.out.below b17)
  replace I1 := Lib.hid (I1.out.below b17)
  have I2 := Lib.hid (hw17 ▸ RowAt.new _ _ w16 : RowAt 3 w16.heap.size [.int .i64 5] w17)
  clear b17
  obtain ⟨w18, hw18⟩ : ∃ w18, w17.alloc (.cells #[.int .i64 0, .int .i64 1, .slice (some ⟨wL.heap.size, 0, none⟩) 1 1, .slice (some ⟨w16.heap.size, 0, none⟩) 1 1] 54) = w18 := ⟨_, rfl⟩
  have b18 : Below w17.heap.size w17 w18 := hw18 ▸ below_alloc (Below.refl _ _) _
  replace BB := Lib.hid (below_trans BB.out b18)
  replace R1 := Lib.hid (R1.out.below b18)
  replace S1 := Lib.hid (S1.out.below b18)
  replace R3 := Lib.hid (R3.out.below b18)
  replace S3 := Lib.hid (S3.out.below b18)
  replace R5 := Lib.hid (R5.out.below b18)
  replace S5 := Lib.hid (S5.out.below b18)
  replace I1 := Lib.hid (I1.out.below b18)
  replace I2 := Lib.hid (I2.out.below b18)
  have F1 := Lib.hid (hw18 ▸ RowAt.new _ _ w17 : RowAt 54 w17.heap.size [.int .i64 0, .int .i64 1, .slice (some ⟨wL.heap.size, 0, none⟩) 1 1, .slice (some ⟨w16.heap.size, 0, none⟩) 1 1] w18)
  clear b18
  have E1 := Lib.hid (frs1 (frm_at (f := ⟨0, 1, [5], [5]⟩) (j := 0) F1.out (by simp) rfl rfl rfl rfl (intsL (xs := [5]) I1.out (by simp)) (intsL (xs := [5]) I2.out (by simp)) rfl rfl))
  have HS := Lib.hid (same_s (x := s71) (y := s71) (c := c6) (co := co6) (d := 1) (dO := 0) (Bo := none) R1.out ⟨E1.out, reads_i0⟩ (n := 1) rfl (m := 0) rfl (k := 1) rfl (j := 0) rfl (f1 := 8) rfl (d1 := 0) rfl (v1 := 0) rfl (f2 := 8) rfl (d2 := 0) rfl (v2 := 0) rfl (b := true) (by simp))
  go_wp2_with fail
  (with_reducible refine HS.out.mono ?_)
  rintro e w19 ⟨rfl, hB19⟩
  replace BB := Lib.hid (below_trans BB.out hB19)
  replace R1 := Lib.hid (R1.out.below hB19)
  replace S1 := Lib.hid (S1.out.below hB19)
  replace R3 := Lib.hid (R3.out.below hB19)
  replace S3 := Lib.hid (S3.out.below hB19)
  replace R5 := Lib.hid (R5.out.below hB19)
  replace S5 := Lib.hid (S5.out.below hB19)
  replace I1 := Lib.hid (I1.out.below hB19)
  replace I2 := Lib.hid (I2.out.below hB19)
  replace F1 := Lib.hid (F1.out.below hB19)
  clear HS hB19 cS1_0 cS1_1 cS1_2 cS1_3 cS1_4
  clear E1
  clear I1 I2 F1 R1 S1
  have cS3_0 := S3.out.cell (k := 0) (by simp)
  simp only [List.getElem_cons_zero] at cS3_0
  have cS3_1 := S3.out.cell (k := 1) (by simp)
  simp only [List.getElem_cons_zero, List.getElem_cons_succ] at cS3_1
  have cS3_2 := S3.out.cell (k := 2) (by simp)
  simp only [List.getElem_cons_zero, List.getElem_cons_succ] at cS3_2
  have cS3_3 := S3.out.cell (k := 3) (by simp)
  simp only [List.getElem_cons_zero, List.getElem_cons_succ] at cS3_3
  have cS3_4 := S3.out.cell (k := 4) (by simp)
  simp only [List.getElem_cons_zero, List.getElem_cons_succ] at cS3_4
  obtain ⟨w20, hw20⟩ : ∃ w20, w19.alloc (.cells #[.int .i64 5] 3) = w20 := ⟨_, rfl⟩
  have b20 : Below w19.heap.size w19 w20 := hw20 ▸ below_alloc (Below.refl _ _) _
  replace BB := Lib.hid (below_trans BB.out b20)
  replace R3 := Lib.hid (R3.out.below b20)
  replace S3 := Lib.hid (S3.out.below b20)
  replace R5 := Lib.hid (R5.out.below b20)
  replace S5 := Lib.hid (S5.out.below b20)
  have I1 := Lib.hid (hw20 ▸ RowAt.new _ _ w19 : RowAt 3 w19.heap.size [.int .i64 5] w20)
  clear b20
  obtain ⟨w21, hw21⟩ : ∃ w21, w20.alloc (.cells #[.int .i64 5, .int .i64 2] 3) = w21 := ⟨_, rfl⟩
  have b21 : Below w20.heap.size w20 w21 := hw21 ▸ below_alloc (Below.refl _ _) _
  replace BB := Lib.hid (below_trans BB.out b21)
  replace R3 := Lib.hid (R3.out.below b21)
  replace S3 := Lib.hid (S3.out.below b21)
  replace R5 := Lib.hid (R5.out.below b21)
  replace S5 := Lib.hid (S5.out.below b21)
  replace I1 := Lib.hid (I1.out.below b21)
  have I2 := Lib.hid (hw21 ▸ RowAt.new _ _ w20 : RowAt 3 w20.heap.size [.int .i64 5, .int .i64 2] w21)
  clear b21
  obtain ⟨w22, hw22⟩ : ∃ w22, w21.alloc (.cells #[.int .i64 0, .int .i64 3, .slice (some ⟨w19.heap.size, 0, none⟩) 1 1, .slice none 0 0, .int .i64 1, .int .i64 0, .slice (some ⟨w20.heap.size, 0, none⟩) 2 2, .slice none 0 0] 54) = w22 := ⟨_, rfl⟩
  have b22 : Below w21.heap.size w21 w22 := hw22 ▸ below_alloc (Below.refl _ _) _
  replace BB := Lib.hid (below_trans BB.out b22)
  replace R3 := Lib.hid (R3.out.below b22)
  replace S3 := Lib.hid (S3.out.below b22)
  replace R5 := Lib.hid (R5.out.below b22)
  replace S5 := Lib.hid (S5.out.below b22)
  replace I1 := Lib.hid (I1.out.below b22)
  replace I2 := Lib.hid (I2.out.below b22)
  have F1 := Lib.hid (hw22 ▸ RowAt.new _ _ w21 : RowAt 54 w21.heap.size [.int .i64 0, .int .i64 3, .slice (some ⟨w19.heap.size, 0, none⟩) 1 1, .slice none 0 0, .int .i64 1, .int .i64 0, .slice (some ⟨w20.heap.size, 0, none⟩) 2 2, .slice none 0 0] w22)
  clear b22
  have E1 := Lib.hid (frs2 (frm_at (f := ⟨0, 3, [5], []⟩) (j := 0) F1.out (by simp) rfl rfl rfl rfl (intsL (xs := [5]) I1.out (by simp)) reads_i0 rfl rfl) (frm_at (f := ⟨1, 0, [5, 2], []⟩) (j := 4) F1.out (by simp) rfl rfl rfl rfl (intsL (xs := [5, 2]) I2.out (by simp)) reads_i0 rfl rfl))
  have HS := Lib.hid (same_s (x := s73) (y := s73) (c := c10) (co := co10) (d := 2) (dO := 0) (Bo := none) R3.out ⟨E1.out, reads_i0⟩ (n := 2) rfl (m := 0) rfl (k := 2) rfl (j := 0) rfl (f1 := 6) rfl (d1 := 0) rfl (v1 := 0) rfl (f2 := 6) rfl (d2 := 0) rfl (v2 := 0) rfl (b := true) (by simp))
  go_wp2_with (first | (go_at_call 24; (with_reducible refine (HNUM.out _ _).mono ?_); rintro e wn ⟨rfl, rfl⟩) | fail)
  (with_reducible refine HS.out.mono ?_)
  rintro e w23 ⟨rfl, hB23⟩
  replace BB := Lib.hid (below_trans BB.out hB23)
  replace R3 := Lib.hid (R3.out.below hB23)
  replace S3 := Lib.hid (S3.out.below hB23)
  replace R5 := Lib.hid (R5.out.below hB23)
  replace S5 := Lib.hid (S5.out.below hB23)
  replace I1 := Lib.hid (I1.out.below hB23)
  replace I2 := Lib.hid (I2.out.below hB23)
  replace F1 := Lib.hid (F1.out.below hB23)
  clear HS hB23 cS3_0 cS3_1 cS3_2 cS3_3 cS3_4
  clear E1
  clear I1 I2 F1 R3 S3
  have cS5_0 := S5.out.cell (k := 0) (by simp)
  simp only [List.getElem_cons_zero] at cS5_0
  have cS5_1 := S5.out.cell (k := 1) (by simp)
  simp only [List.getElem_cons_zero, List.getElem_cons_succ] at cS5_1
  have cS5_2 := S5.out.cell (k := 2) (by simp)
  simp only [List.getElem_cons_zero, List.getElem_cons_succ] at cS5_2
  have cS5_3 := S5.out.cell (k := 3) (by simp)
  simp only [List.getElem_cons_zero, List.getElem_cons_succ] at cS5_3
  have cS5_4 := S5.out.cell (k := 4) (by simp)
  simp only [List.getElem_cons_zero, List.getElem_cons_succ] at cS5_4
  have HS := Lib.hid (same_s (x := s75) (y := s75) (c := c14) (co := co14) (A := A14) (Ao := Ao14) (d := 0) (dO := 0) (B := none) (Bo := none) R5.out (reads_s0 rfl rfl) (n := 0) rfl (m := 0) rfl (k := 0) rfl (j := 0) rfl (f1 := 0) rfl (d1 := 4) rfl (v1 := 0) rfl (f2 := 0) rfl (d2 := 4) rfl (v2 := 0) rfl (b := true) (by simp))
  go_wp2_with (first | (go_at_call 24; (with_reducible refine (HNUM.out _ _).mono ?_); rintro e wn ⟨rfl, rfl⟩) | fail)
  (with_reducible refine HS.out.mono ?_)
  rintro e w24 ⟨rfl, hB24⟩
  replace BB := Lib.hid (below_trans BB.out hB24)
  replace R5 := Lib.hid (R5.out.below hB24)
  replace S5 := Lib.hid (S5.out.below hB24)
  clear HS hB24 cS5_0 cS5_1 cS5_2 cS5_3 cS5_4
  go_wp2_with (first | (go_at_call 24; (with_reducible refine (HNUM.out _ _).mono ?_); rintro e wn ⟨rfl, rfl⟩) | fail)
  go_ret
  exact ⟨rfl, BB.out⟩
end Go.Proofs.YtjghibdlmmjobaaGreatDoor
