/- 'awake' of the statements on frames: what every program answers that is one. Condition: errors.errorType is laid. -/
import Derived.Test.YtdjlaglilokjeaaGreatDoorTwo6
namespace Go.Proofs.YtdjlaglilokjeaaGreatDoor
open Go.RowKit

def s6 : Stt := ⟨[⟨0, 0, [5], []⟩], 9, [], 0, 0⟩
def t6 : Stt := ⟨[⟨0, 3, [5], []⟩, ⟨1, 2, [5, 2], [5, 2]⟩], 4, [], 0, 0⟩
def bad6 : Stt := ⟨[⟨0, 2, [5], []⟩, ⟨1, 2, [5, 2], [5, 2]⟩], 4, [], 0, 0⟩
theorem st61 : startS twoP [5] 9 = s6 := by kernel_rfl
theorem sc61 : startC twoP [5] 9 = 0 := by kernel_rfl
theorem st62 : startS twoP [] 9 = zeroS := by kernel_rfl
theorem sc62 : startC twoP [] 9 = 600 := by kernel_rfl
theorem st63 : startS twoP [5] (-1) = zeroS := by kernel_rfl
theorem sc63 : startC twoP [5] (-1) = 600 := by kernel_rfl
theorem sb61 : stateB twoP s6 = true := by kernel_rfl
theorem sb62 : stateB twoP t6 = true := by kernel_rfl
theorem sb63 : stateB twoP bad6 = false := by kernel_rfl
theorem fm61 : frameMayB twoP ⟨1, 2, [5, 2], [5, 2]⟩ = true := by kernel_rfl
theorem fm62 : frameMayB twoP ⟨0, 3, [5], []⟩ = false := by kernel_rfl
theorem t6_fit : FitS t6 := ⟨by decide, by decide, fun f hf => by simp [t6] at hf; rcases hf with rfl | rfl <;> decide⟩
theorem t6_reads {W : World} {g0 g1 g2 g3 : Nat} (i0 : RowAt 3 g0 [.int .i64 5] W) (i1 : RowAt 3 g1 [.int .i64 5, .int .i64 2] W) (i2 : RowAt 3 g2 [.int .i64 5, .int .i64 2] W)
    (i3 : RowAt 27 g3 [.int .i64 0, .int .i64 3, .slice (some ⟨g0, 0, none⟩) 1 1, .slice none 0 0, .int .i64 1, .int .i64 2, .slice (some ⟨g1, 0, none⟩) 2 2, .slice (some ⟨g2, 0, none⟩) 2 2] W) : ReadsS W t6 (some ⟨g3, 0, none⟩) none := by
  have c := fun k (hk : k < 8) => i3.cell (k := k) hk
  refine ⟨⟨by simp [t6], fun _ => ⟨_, rfl, fun k hk => ?_⟩⟩, reads_nil _ _⟩
  match k, hk with
  | 0, _ => exact ⟨c 0 (by decide), c 1 (by decide), ⟨_, _, c 2 (by decide), intsL (xs := [5]) i0 (by simp)⟩, _, _, c 3 (by decide), reads_nil _ _⟩
  | 1, _ => exact ⟨c 4 (by decide), c 5 (by decide), ⟨_, _, c 6 (by decide), intsL (xs := [5, 2]) i1 (by simp)⟩, _, _, c 7 (by decide), intsL (xs := [5, 2]) i2 (by simp)⟩
theorem lit_reads {W : World} {g h : Nat} (h1 : W.heap[g]? = some (.cells #[.int .i64 5] 3 (0, 0))) (h2 : W.heap[h]? = some (.cells #[.int .i64 0, .int .i64 0, .slice (some ⟨g, 0, none⟩) 1 1, .slice none 0 0] 27 (0, 0))) : ReadsS W s6 (some ⟨h, 0, none⟩) none := by
  have i0 : RowAt 3 g (intsV [5]) W := h1
  have i3 : RowAt 27 h [.int .i64 0, .int .i64 0, .slice (some ⟨g, 0, none⟩) 1 1, .slice none 0 0] W := h2
  have c := fun k (hk : k < 4) => i3.cell (k := k) hk
  refine ⟨⟨by simp [s6], fun _ => ⟨_, rfl, fun k hk => ?_⟩⟩, reads_nil _ _⟩
  match k, hk with
  | 0, _ => exact ⟨c 0 (by decide), c 1 (by decide), ⟨_, _, c 2 (by decide), intsL (xs := [5]) i0 (by simp)⟩, _, _, c 3 (by decide), reads_nil _ _⟩
theorem five {t b : Nat} {v0 v1 v2 v3 v4 : Value} {w : World} (h : RowAt t b [v0, v1, v2, v3, v4] w) : w.cell? ⟨b, 0, none⟩ = some v0 ∧ w.cell? ⟨b, 1, none⟩ = some v1 ∧ w.cell? ⟨b, 2, none⟩ = some v2 ∧ w.cell? ⟨b, 3, none⟩ = some v3 ∧ w.cell? ⟨b, 4, none⟩ = some v4 :=
  ⟨h.cell (k := 0) (by simp), h.cell (k := 1) (by simp), h.cell (k := 2) (by simp), h.cell (k := 3) (by simp), h.cell (k := 4) (by simp)⟩
set_option maxRecDepth 100000 in
set_option maxHeartbeats 4000000 in
theorem awake6_any (w : World) (hl : Laid w) : Calls Tryz.prog 18 #[] w (Ret (.bool true) w) := by
  have HL := Lib.hid hl
  clear hl
  have B := Lib.hid (Below.refl w.heap.size w)
  have H := Lib.hid (two_any w)
  go_enter Tryz.func18, Tryz.ntmps18
  go_wp2_with fail
  (with_reducible refine H.out.mono ?_)
  rintro e w1 ⟨gp, rfl, hr, hB⟩
  clear H
  replace HL := Lib.hid (HL.out.below hB)
  replace B := Lib.hid (below_trans B.out hB)
  have RP := Lib.hid (hr)
  clear hB hr
  have hb : Below w1.heap.size w1 ((w1.alloc (.cells #[.slice (some ⟨gp, 0, none⟩) 2 2] 24)).alloc (.cells #[.int .i64 5] 3)) := allocsL_below [.cells #[.slice (some ⟨gp, 0, none⟩) 2 2] 24, .cells #[.int .i64 5] 3] w1
  replace HL := Lib.hid (HL.out.below hb)
  replace B := Lib.hid (below_trans B.out hb)
  replace RP := Lib.hid (RP.out.below hb)
  have P := Lib.hid (show RowAt 24 (w1.heap.size) [.slice (some ⟨gp, 0, none⟩) 2 2] ((w1.alloc (.cells #[.slice (some ⟨gp, 0, none⟩) 2 2] 24)).alloc (.cells #[.int .i64 5] 3)) from rowL (w := w1) (os := [.cells #[.slice (some ⟨gp, 0, none⟩) 2 2] 24, .cells #[.int .i64 5] 3]) (i := 0) (cs := [.slice (some ⟨gp, 0, none⟩) 2 2]) (by simp) rfl)
  have AI := Lib.hid (show RowAt 3 (w1.heap.size + 1) [.int .i64 5] ((w1.alloc (.cells #[.slice (some ⟨gp, 0, none⟩) 2 2] 24)).alloc (.cells #[.int .i64 5] 3)) from rowL (w := w1) (os := [.cells #[.slice (some ⟨gp, 0, none⟩) 2 2] 24, .cells #[.int .i64 5] 3]) (i := 1) (cs := [.int .i64 5]) (by simp) rfl)
  clear hb
  have H := Lib.hid (start_any twoP (some ⟨gp, 0, none⟩) (some ⟨w1.heap.size + 1, 0, none⟩) 2 1 [5] 9 ((w1.alloc (.cells #[.slice (some ⟨gp, 0, none⟩) 2 2] 24)).alloc (.cells #[.int .i64 5] 3)) HL.out RP.out (intsL (xs := [5]) AI.out (by simp)))
  simp only [st61, sc61, twoP_len, len1] at H
  have c0 := P.out.cell (k := 0) (by simp)
  simp only [List.getElem_cons_zero] at c0
  go_wp2_with fail
  (with_reducible refine H.out.mono ?_)
  rintro e w2 ⟨fv, ov, vss, rfl, hos, hB⟩
  clear H c0
  replace HL := Lib.hid (HL.out.below hB)
  replace B := Lib.hid (below_trans B.out hB)
  replace RP := Lib.hid (RP.out.below hB)
  replace P := Lib.hid (P.out.below hB)
  replace AI := Lib.hid (AI.out.below hB)
  clear hB
  clear AI
  obtain ⟨A, c, Ao, co, rfl, rfl, hc, hrs⟩ := hos.reads
  rw [show sttV s6 (.slice A s6.frames.length c) (.slice Ao s6.out.length co) = .agg #[.slice A 1 c, .int .i64 9, .slice Ao 0 co, .int .i64 0, .int .i64 0] from rfl]
  have RS := Lib.hid (hrs)
  have HC := Lib.hid hc
  clear hos hrs hc
  have c1 := P.out.cell (k := 0) (by simp)
  simp only [List.getElem_cons_zero] at c1
  have hb : Below w2.heap.size w2 (w2.alloc (.cells #[.slice A 1 c, .int .i64 9, .slice Ao 0 co, .int .i64 0, .int .i64 0] 30)) := allocsL_below [.cells #[.slice A 1 c, .int .i64 9, .slice Ao 0 co, .int .i64 0, .int .i64 0] 30] w2
  replace HL := Lib.hid (HL.out.below hb)
  replace B := Lib.hid (below_trans B.out hb)
  replace RP := Lib.hid (RP.out.below hb)
  replace P := Lib.hid (P.out.below hb)
  replace RS := Lib.hid (RS.out.below hb)
  have S := Lib.hid (show RowAt 30 (w2.heap.size) [.slice A 1 c, .int .i64 9, .slice Ao 0 co, .int .i64 0, .int .i64 0] (w2.alloc (.cells #[.slice A 1 c, .int .i64 9, .slice Ao 0 co, .int .i64 0, .int .i64 0] 30)) from rowL (w := w2) (os := [.cells #[.slice A 1 c, .int .i64 9, .slice Ao 0 co, .int .i64 0, .int .i64 0] 30]) (i := 0) (cs := [.slice A 1 c, .int .i64 9, .slice Ao 0 co, .int .i64 0, .int .i64 0]) (by simp) rfl)
  clear hb
  have H := Lib.hid (start_any twoP (some ⟨gp, 0, none⟩) none 2 0 [] 9 (w2.alloc (.cells #[.slice A 1 c, .int .i64 9, .slice Ao 0 co, .int .i64 0, .int .i64 0] 30)) HL.out RP.out (reads_nil _ _))
  simp only [st62, sc62, twoP_len, len0] at H
  have c2 := P.out.cell (k := 0) (by simp)
  simp only [List.getElem_cons_zero] at c2
  go_wp2_with fail
  (with_reducible refine H.out.mono ?_)
  rintro e w3 ⟨fv, ov, vss, rfl, hos, hB⟩
  clear H c1 c2
  replace HL := Lib.hid (HL.out.below hB)
  replace B := Lib.hid (below_trans B.out hB)
  replace RP := Lib.hid (RP.out.below hB)
  replace P := Lib.hid (P.out.below hB)
  replace RS := Lib.hid (RS.out.below hB)
  replace S := Lib.hid (S.out.below hB)
  clear hB
  obtain ⟨A2, d2, Ao2, do2, rfl, rfl, -, -⟩ := hos.reads
  rw [show sttV zeroS (.slice A2 zeroS.frames.length d2) (.slice Ao2 zeroS.out.length do2) = .agg #[.slice A2 0 d2, .int .i64 0, .slice Ao2 0 do2, .int .i64 0, .int .i64 0] from rfl]
  clear hos
  have c3 := P.out.cell (k := 0) (by simp)
  simp only [List.getElem_cons_zero] at c3
  have c4 := cell_below (show Below w3.heap.size w3 (w3.alloc (.cells #[.slice A2 0 d2, .int .i64 0, .slice Ao2 0 do2, .int .i64 0, .int .i64 0] 30)) from allocsL_below [.cells #[.slice A2 0 d2, .int .i64 0, .slice Ao2 0 do2, .int .i64 0, .int .i64 0] 30] w3) c3
  have hb : Below w3.heap.size w3 ((w3.alloc (.cells #[.slice A2 0 d2, .int .i64 0, .slice Ao2 0 do2, .int .i64 0, .int .i64 0] 30)).alloc (.cells #[.int .i64 5] 3)) := allocsL_below [.cells #[.slice A2 0 d2, .int .i64 0, .slice Ao2 0 do2, .int .i64 0, .int .i64 0] 30, .cells #[.int .i64 5] 3] w3
  replace HL := Lib.hid (HL.out.below hb)
  replace B := Lib.hid (below_trans B.out hb)
  replace RP := Lib.hid (RP.out.below hb)
  replace P := Lib.hid (P.out.below hb)
  replace RS := Lib.hid (RS.out.below hb)
  replace S := Lib.hid (S.out.below hb)
  have AI := Lib.hid (show RowAt 3 (w3.heap.size + 1) [.int .i64 5] ((w3.alloc (.cells #[.slice A2 0 d2, .int .i64 0, .slice Ao2 0 do2, .int .i64 0, .int .i64 0] 30)).alloc (.cells #[.int .i64 5] 3)) from rowL (w := w3) (os := [.cells #[.slice A2 0 d2, .int .i64 0, .slice Ao2 0 do2, .int .i64 0, .int .i64 0] 30, .cells #[.int .i64 5] 3]) (i := 1) (cs := [.int .i64 5]) (by simp) rfl)
  clear hb
  have H := Lib.hid (start_any twoP (some ⟨gp, 0, none⟩) (some ⟨w3.heap.size + 1, 0, none⟩) 2 1 [5] (-1) ((w3.alloc (.cells #[.slice A2 0 d2, .int .i64 0, .slice Ao2 0 do2, .int .i64 0, .int .i64 0] 30)).alloc (.cells #[.int .i64 5] 3)) HL.out RP.out (intsL (xs := [5]) AI.out (by simp)))
  simp only [st63, sc63, twoP_len, len1] at H
  have c5 := P.out.cell (k := 0) (by simp)
  simp only [List.getElem_cons_zero] at c5
  go_wp2_with fail
  (with_reducible refine H.out.mono ?_)
  rintro e w4 ⟨fv, ov, vss, rfl, hos, hB⟩
  clear H c3 c4 c5
  replace HL := Lib.hid (HL.out.below hB)
  replace B := Lib.hid (below_trans B.out hB)
  replace RP := Lib.hid (RP.out.below hB)
  replace P := Lib.hid (P.out.below hB)
  replace RS := Lib.hid (RS.out.below hB)
  replace S := Lib.hid (S.out.below hB)
  replace AI := Lib.hid (AI.out.below hB)
  clear hB
  clear AI
  obtain ⟨A3, d3, Ao3, do3, rfl, rfl, -, -⟩ := hos.reads
  rw [show sttV zeroS (.slice A3 zeroS.frames.length d3) (.slice Ao3 zeroS.out.length do3) = .agg #[.slice A3 0 d3, .int .i64 0, .slice Ao3 0 do3, .int .i64 0, .int .i64 0] from rfl]
  clear hos
  have hb : Below w4.heap.size w4 ((((((w4.alloc (.cells #[.slice A3 0 d3, .int .i64 0, .slice Ao3 0 do3, .int .i64 0, .int .i64 0] 30)).alloc (.cells #[.int .i64 5] 3)).alloc (.cells #[.int .i64 5, .int .i64 2] 3)).alloc (.cells #[.int .i64 5, .int .i64 2] 3)).alloc (.cells #[.int .i64 0, .int .i64 3, .slice (some ⟨w4.heap.size + 1, 0, none⟩) 1 1, .slice none 0 0, .int .i64 1, .int .i64 2, .slice (some ⟨w4.heap.size + 1 + 1, 0, none⟩) 2 2, .slice (some ⟨w4.heap.size + 1 + 1 + 1, 0, none⟩) 2 2] 27)).alloc (.cells #[.slice (some ⟨w4.heap.size + 1 + 1 + 1 + 1, 0, none⟩) 2 2, .int .i64 4, .slice none 0 0, .int .i64 0, .int .i64 0] 30)) := allocsL_below [.cells #[.slice A3 0 d3, .int .i64 0, .slice Ao3 0 do3, .int .i64 0, .int .i64 0] 30, .cells #[.int .i64 5] 3, .cells #[.int .i64 5, .int .i64 2] 3, .cells #[.int .i64 5, .int .i64 2] 3, .cells #[.int .i64 0, .int .i64 3, .slice (some ⟨w4.heap.size + 1, 0, none⟩) 1 1, .slice none 0 0, .int .i64 1, .int .i64 2, .slice (some ⟨w4.heap.size + 1 + 1, 0, none⟩) 2 2, .slice (some ⟨w4.heap.size + 1 + 1 + 1, 0, none⟩) 2 2] 27, .cells #[.slice (some ⟨w4.heap.size + 1 + 1 + 1 + 1, 0, none⟩) 2 2, .int .i64 4, .slice none 0 0, .int .i64 0, .int .i64 0] 30] w4
  replace HL := Lib.hid (HL.out.below hb)
  replace B := Lib.hid (below_trans B.out hb)
  replace RP := Lib.hid (RP.out.below hb)
  replace P := Lib.hid (P.out.below hb)
  replace RS := Lib.hid (RS.out.below hb)
  replace S := Lib.hid (S.out.below hb)
  have T1 := Lib.hid (show RowAt 3 (w4.heap.size + 1) [.int .i64 5] ((((((w4.alloc (.cells #[.slice A3 0 d3, .int .i64 0, .slice Ao3 0 do3, .int .i64 0, .int .i64 0] 30)).alloc (.cells #[.int .i64 5] 3)).alloc (.cells #[.int .i64 5, .int .i64 2] 3)).alloc (.cells #[.int .i64 5, .int .i64 2] 3)).alloc (.cells #[.int .i64 0, .int .i64 3, .slice (some ⟨w4.heap.size + 1, 0, none⟩) 1 1, .slice none 0 0, .int .i64 1, .int .i64 2, .slice (some ⟨w4.heap.size + 1 + 1, 0, none⟩) 2 2, .slice (some ⟨w4.heap.size + 1 + 1 + 1, 0, none⟩) 2 2] 27)).alloc (.cells #[.slice (some ⟨w4.heap.size + 1 + 1 + 1 + 1, 0, none⟩) 2 2, .int .i64 4, .slice none 0 0, .int .i64 0, .int .i64 0] 30)) from rowL (w := w4) (os := [.cells #[.slice A3 0 d3, .int .i64 0, .slice Ao3 0 do3, .int .i64 0, .int .i64 0] 30, .cells #[.int .i64 5] 3, .cells #[.int .i64 5, .int .i64 2] 3, .cells #[.int .i64 5, .int .i64 2] 3, .cells #[.int .i64 0, .int .i64 3, .slice (some ⟨w4.heap.size + 1, 0, none⟩) 1 1, .slice none 0 0, .int .i64 1, .int .i64 2, .slice (some ⟨w4.heap.size + 1 + 1, 0, none⟩) 2 2, .slice (some ⟨w4.heap.size + 1 + 1 + 1, 0, none⟩) 2 2] 27, .cells #[.slice (some ⟨w4.heap.size + 1 + 1 + 1 + 1, 0, none⟩) 2 2, .int .i64 4, .slice none 0 0, .int .i64 0, .int .i64 0] 30]) (i := 1) (cs := [.int .i64 5]) (by simp) rfl)
  have T2 := Lib.hid (show RowAt 3 (w4.heap.size + 1 + 1) [.int .i64 5, .int .i64 2] ((((((w4.alloc (.cells #[.slice A3 0 d3, .int .i64 0, .slice Ao3 0 do3, .int .i64 0, .int .i64 0] 30)).alloc (.cells #[.int .i64 5] 3)).alloc (.cells #[.int .i64 5, .int .i64 2] 3)).alloc (.cells #[.int .i64 5, .int .i64 2] 3)).alloc (.cells #[.int .i64 0, .int .i64 3, .slice (some ⟨w4.heap.size + 1, 0, none⟩) 1 1, .slice none 0 0, .int .i64 1, .int .i64 2, .slice (some ⟨w4.heap.size + 1 + 1, 0, none⟩) 2 2, .slice (some ⟨w4.heap.size + 1 + 1 + 1, 0, none⟩) 2 2] 27)).alloc (.cells #[.slice (some ⟨w4.heap.size + 1 + 1 + 1 + 1, 0, none⟩) 2 2, .int .i64 4, .slice none 0 0, .int .i64 0, .int .i64 0] 30)) from rowL (w := w4) (os := [.cells #[.slice A3 0 d3, .int .i64 0, .slice Ao3 0 do3, .int .i64 0, .int .i64 0] 30, .cells #[.int .i64 5] 3, .cells #[.int .i64 5, .int .i64 2] 3, .cells #[.int .i64 5, .int .i64 2] 3, .cells #[.int .i64 0, .int .i64 3, .slice (some ⟨w4.heap.size + 1, 0, none⟩) 1 1, .slice none 0 0, .int .i64 1, .int .i64 2, .slice (some ⟨w4.heap.size + 1 + 1, 0, none⟩) 2 2, .slice (some ⟨w4.heap.size + 1 + 1 + 1, 0, none⟩) 2 2] 27, .cells #[.slice (some ⟨w4.heap.size + 1 + 1 + 1 + 1, 0, none⟩) 2 2, .int .i64 4, .slice none 0 0, .int .i64 0, .int .i64 0] 30]) (i := 2) (cs := [.int .i64 5, .int .i64 2]) (by simp) rfl)
  have T3 := Lib.hid (show RowAt 3 (w4.heap.size + 1 + 1 + 1) [.int .i64 5, .int .i64 2] ((((((w4.alloc (.cells #[.slice A3 0 d3, .int .i64 0, .slice Ao3 0 do3, .int .i64 0, .int .i64 0] 30)).alloc (.cells #[.int .i64 5] 3)).alloc (.cells #[.int .i64 5, .int .i64 2] 3)).alloc (.cells #[.int .i64 5, .int .i64 2] 3)).alloc (.cells #[.int .i64 0, .int .i64 3, .slice (some ⟨w4.heap.size + 1, 0, none⟩) 1 1, .slice none 0 0, .int .i64 1, .int .i64 2, .slice (some ⟨w4.heap.size + 1 + 1, 0, none⟩) 2 2, .slice (some ⟨w4.heap.size + 1 + 1 + 1, 0, none⟩) 2 2] 27)).alloc (.cells #[.slice (some ⟨w4.heap.size + 1 + 1 + 1 + 1, 0, none⟩) 2 2, .int .i64 4, .slice none 0 0, .int .i64 0, .int .i64 0] 30)) from rowL (w := w4) (os := [.cells #[.slice A3 0 d3, .int .i64 0, .slice Ao3 0 do3, .int .i64 0, .int .i64 0] 30, .cells #[.int .i64 5] 3, .cells #[.int .i64 5, .int .i64 2] 3, .cells #[.int .i64 5, .int .i64 2] 3, .cells #[.int .i64 0, .int .i64 3, .slice (some ⟨w4.heap.size + 1, 0, none⟩) 1 1, .slice none 0 0, .int .i64 1, .int .i64 2, .slice (some ⟨w4.heap.size + 1 + 1, 0, none⟩) 2 2, .slice (some ⟨w4.heap.size + 1 + 1 + 1, 0, none⟩) 2 2] 27, .cells #[.slice (some ⟨w4.heap.size + 1 + 1 + 1 + 1, 0, none⟩) 2 2, .int .i64 4, .slice none 0 0, .int .i64 0, .int .i64 0] 30]) (i := 3) (cs := [.int .i64 5, .int .i64 2]) (by simp) rfl)
  have TF := Lib.hid (show RowAt 27 (w4.heap.size + 1 + 1 + 1 + 1) [.int .i64 0, .int .i64 3, .slice (some ⟨w4.heap.size + 1, 0, none⟩) 1 1, .slice none 0 0, .int .i64 1, .int .i64 2, .slice (some ⟨w4.heap.size + 1 + 1, 0, none⟩) 2 2, .slice (some ⟨w4.heap.size + 1 + 1 + 1, 0, none⟩) 2 2] ((((((w4.alloc (.cells #[.slice A3 0 d3, .int .i64 0, .slice Ao3 0 do3, .int .i64 0, .int .i64 0] 30)).alloc (.cells #[.int .i64 5] 3)).alloc (.cells #[.int .i64 5, .int .i64 2] 3)).alloc (.cells #[.int .i64 5, .int .i64 2] 3)).alloc (.cells #[.int .i64 0, .int .i64 3, .slice (some ⟨w4.heap.size + 1, 0, none⟩) 1 1, .slice none 0 0, .int .i64 1, .int .i64 2, .slice (some ⟨w4.heap.size + 1 + 1, 0, none⟩) 2 2, .slice (some ⟨w4.heap.size + 1 + 1 + 1, 0, none⟩) 2 2] 27)).alloc (.cells #[.slice (some ⟨w4.heap.size + 1 + 1 + 1 + 1, 0, none⟩) 2 2, .int .i64 4, .slice none 0 0, .int .i64 0, .int .i64 0] 30)) from rowL (w := w4) (os := [.cells #[.slice A3 0 d3, .int .i64 0, .slice Ao3 0 do3, .int .i64 0, .int .i64 0] 30, .cells #[.int .i64 5] 3, .cells #[.int .i64 5, .int .i64 2] 3, .cells #[.int .i64 5, .int .i64 2] 3, .cells #[.int .i64 0, .int .i64 3, .slice (some ⟨w4.heap.size + 1, 0, none⟩) 1 1, .slice none 0 0, .int .i64 1, .int .i64 2, .slice (some ⟨w4.heap.size + 1 + 1, 0, none⟩) 2 2, .slice (some ⟨w4.heap.size + 1 + 1 + 1, 0, none⟩) 2 2] 27, .cells #[.slice (some ⟨w4.heap.size + 1 + 1 + 1 + 1, 0, none⟩) 2 2, .int .i64 4, .slice none 0 0, .int .i64 0, .int .i64 0] 30]) (i := 4) (cs := [.int .i64 0, .int .i64 3, .slice (some ⟨w4.heap.size + 1, 0, none⟩) 1 1, .slice none 0 0, .int .i64 1, .int .i64 2, .slice (some ⟨w4.heap.size + 1 + 1, 0, none⟩) 2 2, .slice (some ⟨w4.heap.size + 1 + 1 + 1, 0, none⟩) 2 2]) (by simp) rfl)
  have T := Lib.hid (show RowAt 30 (w4.heap.size + 1 + 1 + 1 + 1 + 1) [.slice (some ⟨w4.heap.size + 1 + 1 + 1 + 1, 0, none⟩) 2 2, .int .i64 4, .slice none 0 0, .int .i64 0, .int .i64 0] ((((((w4.alloc (.cells #[.slice A3 0 d3, .int .i64 0, .slice Ao3 0 do3, .int .i64 0, .int .i64 0] 30)).alloc (.cells #[.int .i64 5] 3)).alloc (.cells #[.int .i64 5, .int .i64 2] 3)).alloc (.cells #[.int .i64 5, .int .i64 2] 3)).alloc (.cells #[.int .i64 0, .int .i64 3, .slice (some ⟨w4.heap.size + 1, 0, none⟩) 1 1, .slice none 0 0, .int .i64 1, .int .i64 2, .slice (some ⟨w4.heap.size + 1 + 1, 0, none⟩) 2 2, .slice (some ⟨w4.heap.size + 1 + 1 + 1, 0, none⟩) 2 2] 27)).alloc (.cells #[.slice (some ⟨w4.heap.size + 1 + 1 + 1 + 1, 0, none⟩) 2 2, .int .i64 4, .slice none 0 0, .int .i64 0, .int .i64 0] 30)) from rowL (w := w4) (os := [.cells #[.slice A3 0 d3, .int .i64 0, .slice Ao3 0 do3, .int .i64 0, .int .i64 0] 30, .cells #[.int .i64 5] 3, .cells #[.int .i64 5, .int .i64 2] 3, .cells #[.int .i64 5, .int .i64 2] 3, .cells #[.int .i64 0, .int .i64 3, .slice (some ⟨w4.heap.size + 1, 0, none⟩) 1 1, .slice none 0 0, .int .i64 1, .int .i64 2, .slice (some ⟨w4.heap.size + 1 + 1, 0, none⟩) 2 2, .slice (some ⟨w4.heap.size + 1 + 1 + 1, 0, none⟩) 2 2] 27, .cells #[.slice (some ⟨w4.heap.size + 1 + 1 + 1 + 1, 0, none⟩) 2 2, .int .i64 4, .slice none 0 0, .int .i64 0, .int .i64 0] 30]) (i := 5) (cs := [.slice (some ⟨w4.heap.size + 1 + 1 + 1 + 1, 0, none⟩) 2 2, .int .i64 4, .slice none 0 0, .int .i64 0, .int .i64 0]) (by simp) rfl)
  clear hb
  have RT := Lib.hid (t6_reads T1.out T2.out T3.out TF.out)
  have H := Lib.hid (copyState_any t6 (some ⟨w4.heap.size + 1 + 1 + 1 + 1, 0, none⟩) none 2 0 ((((((w4.alloc (.cells #[.slice A3 0 d3, .int .i64 0, .slice Ao3 0 do3, .int .i64 0, .int .i64 0] 30)).alloc (.cells #[.int .i64 5] 3)).alloc (.cells #[.int .i64 5, .int .i64 2] 3)).alloc (.cells #[.int .i64 5, .int .i64 2] 3)).alloc (.cells #[.int .i64 0, .int .i64 3, .slice (some ⟨w4.heap.size + 1, 0, none⟩) 1 1, .slice none 0 0, .int .i64 1, .int .i64 2, .slice (some ⟨w4.heap.size + 1 + 1, 0, none⟩) 2 2, .slice (some ⟨w4.heap.size + 1 + 1 + 1, 0, none⟩) 2 2] 27)).alloc (.cells #[.slice (some ⟨w4.heap.size + 1 + 1 + 1 + 1, 0, none⟩) 2 2, .int .i64 4, .slice none 0 0, .int .i64 0, .int .i64 0] 30)) RT.out t6_fit)
  simp only [show sttV t6 (.slice (some ⟨w4.heap.size + 1 + 1 + 1 + 1, 0, none⟩) t6.frames.length 2) (.slice none t6.out.length 0) = .agg #[.slice (some ⟨w4.heap.size + 1 + 1 + 1 + 1, 0, none⟩) 2 2, .int .i64 4, .slice none 0 0, .int .i64 0, .int .i64 0] from rfl] at H
  have c6 := T.out.cell (k := 0) (by simp)
  simp only [List.getElem_cons_zero] at c6
  have c7 := T.out.cell (k := 1) (by simp)
  simp only [List.getElem_cons_zero, List.getElem_cons_succ] at c7
  have c8 := T.out.cell (k := 2) (by simp)
  simp only [List.getElem_cons_zero, List.getElem_cons_succ] at c8
  have c9 := T.out.cell (k := 3) (by simp)
  simp only [List.getElem_cons_zero, List.getElem_cons_succ] at c9
  have c10 := T.out.cell (k := 4) (by simp)
  simp only [List.getElem_cons_zero, List.getElem_cons_succ] at c10
  go_wp2_with fail
  (with_reducible refine H.out.mono ?_)
  rintro e w5 ⟨fv, ov, vss, rfl, hos, hB⟩
  clear H c6 c7 c8 c9 c10
  obtain ⟨A4, d4, Ao4, do4, rfl, rfl, hd4, -⟩ := hos.reads
  have HD4 := Lib.hid hd4
  clear hd4
  rw [show sttV t6 (.slice A4 t6.frames.length d4) (.slice Ao4 t6.out.length do4) = .agg #[.slice A4 2 d4, .int .i64 4, .slice Ao4 0 do4, .int .i64 0, .int .i64 0] from rfl]
  obtain ⟨g, off, rfl, hg1, hg2, hg3, hvk, A5, c5, A6, c6, hvs, -, -, -, hpc, -, -, hfz⟩ := hos.fr.at_ (k := 0) (by simp [t6])
  have hput := OwnG.put hos.fr (k := 0) (j := 1) (by simp [t6]) hvk (by decide) (.int .i64 2) ⟨0, 2, [5], []⟩ (by rw [hvs]; rfl) rfl
  have hz := hfz 1 (by decide)
  simp only [Nat.zero_mul, Nat.add_zero] at hpc hz hput
  have hb : Below w5.heap.size w5 (w5.alloc (.cells #[.slice (some ⟨g, off, none⟩) 2 d4, .int .i64 4, .slice Ao4 0 do4, .int .i64 0, .int .i64 0] 30)) := allocsL_below [.cells #[.slice (some ⟨g, off, none⟩) 2 d4, .int .i64 4, .slice Ao4 0 do4, .int .i64 0, .int .i64 0] 30] w5
  have BD := Lib.hid (show RowAt 30 (w5.heap.size) [.slice (some ⟨g, off, none⟩) 2 d4, .int .i64 4, .slice Ao4 0 do4, .int .i64 0, .int .i64 0] (w5.alloc (.cells #[.slice (some ⟨g, off, none⟩) 2 d4, .int .i64 4, .slice Ao4 0 do4, .int .i64 0, .int .i64 0] 30)) from rowL (w := w5) (os := [.cells #[.slice (some ⟨g, off, none⟩) 2 d4, .int .i64 4, .slice Ao4 0 do4, .int .i64 0, .int .i64 0] 30]) (i := 0) (cs := [.slice (some ⟨g, off, none⟩) 2 d4, .int .i64 4, .slice Ao4 0 do4, .int .i64 0, .int .i64 0]) (by simp) rfl)
  clear hb
  have hba : Below w5.heap.size w5 (w5.alloc (.cells #[.slice (some ⟨g, off, none⟩) 2 d4, .int .i64 4, .slice Ao4 0 do4, .int .i64 0, .int .i64 0] 30)) := below_alloc (Below.refl _ _) _
  have hpc' := cell_below hba hpc
  have hz' : (w5.alloc (.cells #[.slice (some ⟨g, off, none⟩) 2 d4, .int .i64 4, .slice Ao4 0 do4, .int .i64 0, .int .i64 0] 30)).frozen? ⟨g, off + 1, none⟩ = false := by rw [hba.frozen (p := ⟨g, off + 1, none⟩) hg2]; exact hz
  have c11 := BD.out.cell (k := 0) (by simp)
  simp only [List.getElem_cons_zero] at c11
  go_wp2_with fail
  have hb5 := hB.setCell (p := ⟨g, off + 1, none⟩) hg1 (.int .i64 2)
  have hba6 : Below (w5.setCell ⟨g, off + 1, none⟩ (.int .i64 2)).heap.size (w5.setCell ⟨g, off + 1, none⟩ (.int .i64 2)) ((w5.setCell ⟨g, off + 1, none⟩ (.int .i64 2)).alloc (.cells #[.slice (some ⟨g, off, none⟩) 2 d4, .int .i64 4, .slice Ao4 0 do4, .int .i64 0, .int .i64 0] 30)) := below_alloc (Below.refl _ _) _
  have hb6 := below_trans hb5 hba6
  have hobd := OwnG.below hput hba6
  have hbd := RowAt.new 30 [.slice (some ⟨g, off, none⟩) 2 d4, .int .i64 4, .slice Ao4 0 do4, .int .i64 0, .int .i64 0] (w5.setCell ⟨g, off + 1, none⟩ (.int .i64 2))
  rw [show (w5.setCell ⟨g, off + 1, none⟩ (.int .i64 2)).heap.size = w5.heap.size by simp] at hbd
  replace HL := Lib.hid (HL.out.below hb6)
  replace B := Lib.hid (below_trans B.out hb6)
  replace RP := Lib.hid (RP.out.below hb6)
  replace P := Lib.hid (P.out.below hb6)
  replace RS := Lib.hid (RS.out.below hb6)
  replace S := Lib.hid (S.out.below hb6)
  replace T1 := Lib.hid (T1.out.below hb6)
  replace T2 := Lib.hid (T2.out.below hb6)
  replace T3 := Lib.hid (T3.out.below hb6)
  replace TF := Lib.hid (TF.out.below hb6)
  replace T := Lib.hid (T.out.below hb6)
  replace RT := Lib.hid (RT.out.below hb6)
  replace BD := Lib.hid hbd
  have RB := Lib.hid (show ReadsS ((w5.setCell ⟨g, off + 1, none⟩ (.int .i64 2)).alloc (.cells #[.slice (some ⟨g, off, none⟩) 2 d4, .int .i64 4, .slice Ao4 0 do4, .int .i64 0, .int .i64 0] 30)) bad6 (some ⟨g, off, none⟩) Ao4 from ⟨(OwnFr.reads hobd).2, reads_nil _ _⟩)
  clear hput hz hpc hpc' hz' hos hb6 hobd hbd hba hB hfz hvs hg1 hg2 hg3 hb5 hba6 c11
  generalize hw6 : ((w5.setCell ⟨g, off + 1, none⟩ (.int .i64 2)).alloc (.cells #[.slice (some ⟨g, off, none⟩) 2 d4, .int .i64 4, .slice Ao4 0 do4, .int .i64 0, .int .i64 0] 30)) = w6 at *
  clear hw6
  have HALL := Lib.hid (show ∀ W', Below w6.heap.size w6 W' → W'.cell? ⟨w1.heap.size, 0, none⟩ = some (.slice (some ⟨gp, 0, none⟩) 2 2) ∧ W'.cell? ⟨w2.heap.size, 0, none⟩ = some (.slice A 1 c) ∧ W'.cell? ⟨w2.heap.size, 1, none⟩ = some (.int .i64 9) ∧ W'.cell? ⟨w2.heap.size, 2, none⟩ = some (.slice Ao 0 co) ∧ W'.cell? ⟨w2.heap.size, 3, none⟩ = some (.int .i64 0) ∧ W'.cell? ⟨w2.heap.size, 4, none⟩ = some (.int .i64 0) ∧ W'.cell? ⟨w4.heap.size + 1 + 1 + 1 + 1 + 1, 0, none⟩ = some (.slice (some ⟨w4.heap.size + 1 + 1 + 1 + 1, 0, none⟩) 2 2) ∧ W'.cell? ⟨w4.heap.size + 1 + 1 + 1 + 1 + 1, 1, none⟩ = some (.int .i64 4) ∧ W'.cell? ⟨w4.heap.size + 1 + 1 + 1 + 1 + 1, 2, none⟩ = some (.slice none 0 0) ∧ W'.cell? ⟨w4.heap.size + 1 + 1 + 1 + 1 + 1, 3, none⟩ = some (.int .i64 0) ∧ W'.cell? ⟨w4.heap.size + 1 + 1 + 1 + 1 + 1, 4, none⟩ = some (.int .i64 0) ∧ W'.cell? ⟨w5.heap.size, 0, none⟩ = some (.slice (some ⟨g, off, none⟩) 2 d4) ∧ W'.cell? ⟨w5.heap.size, 1, none⟩ = some (.int .i64 4) ∧ W'.cell? ⟨w5.heap.size, 2, none⟩ = some (.slice Ao4 0 do4) ∧ W'.cell? ⟨w5.heap.size, 3, none⟩ = some (.int .i64 0) ∧ W'.cell? ⟨w5.heap.size, 4, none⟩ = some (.int .i64 0) ∧ W'.cell? ⟨w4.heap.size + 1 + 1 + 1 + 1, 0, none⟩ = some (.int .i64 0) ∧ W'.cell? ⟨w4.heap.size + 1 + 1 + 1 + 1, 1, none⟩ = some (.int .i64 3) ∧ W'.cell? ⟨w4.heap.size + 1 + 1 + 1 + 1, 2, none⟩ = some (.slice (some ⟨w4.heap.size + 1, 0, none⟩) 1 1) ∧ W'.cell? ⟨w4.heap.size + 1 + 1 + 1 + 1, 3, none⟩ = some (.slice none 0 0) ∧ W'.cell? ⟨w4.heap.size + 1 + 1 + 1 + 1, 4, none⟩ = some (.int .i64 1) ∧ W'.cell? ⟨w4.heap.size + 1 + 1 + 1 + 1, 5, none⟩ = some (.int .i64 2) ∧ W'.cell? ⟨w4.heap.size + 1 + 1 + 1 + 1, 6, none⟩ = some (.slice (some ⟨w4.heap.size + 1 + 1, 0, none⟩) 2 2) ∧ W'.cell? ⟨w4.heap.size + 1 + 1 + 1 + 1, 7, none⟩ = some (.slice (some ⟨w4.heap.size + 1 + 1 + 1, 0, none⟩) 2 2) ∧ Below w6.heap.size w6 W' from fun W' hb => ⟨(P.out.below hb).cell (k := 0) (by simp), (S.out.below hb).cell (k := 0) (by simp), (S.out.below hb).cell (k := 1) (by simp), (S.out.below hb).cell (k := 2) (by simp), (S.out.below hb).cell (k := 3) (by simp), (S.out.below hb).cell (k := 4) (by simp), (T.out.below hb).cell (k := 0) (by simp), (T.out.below hb).cell (k := 1) (by simp), (T.out.below hb).cell (k := 2) (by simp), (T.out.below hb).cell (k := 3) (by simp), (T.out.below hb).cell (k := 4) (by simp), (BD.out.below hb).cell (k := 0) (by simp), (BD.out.below hb).cell (k := 1) (by simp), (BD.out.below hb).cell (k := 2) (by simp), (BD.out.below hb).cell (k := 3) (by simp), (BD.out.below hb).cell (k := 4) (by simp), (TF.out.below hb).cell (k := 0) (by simp), (TF.out.below hb).cell (k := 1) (by simp), (TF.out.below hb).cell (k := 2) (by simp), (TF.out.below hb).cell (k := 3) (by simp), (TF.out.below hb).cell (k := 4) (by simp), (TF.out.below hb).cell (k := 5) (by simp), (TF.out.below hb).cell (k := 6) (by simp), (TF.out.below hb).cell (k := 7) (by simp), hb⟩)
  have HSS := Lib.hid (show ∀ (W' : World) (a h : Nat), Below w6.heap.size w6 W' → W'.heap[a]? = some (.cells #[.int .i64 5] 3 (0, 0)) → W'.heap[h]? = some (.cells #[.int .i64 0, .int .i64 0, .slice (some ⟨a, 0, none⟩) 1 1, .slice none 0 0] 27 (0, 0)) →
      Calls Tryz.prog 9 #[.agg #[.slice A 1 c, .int .i64 9, .slice Ao 0 co, .int .i64 0, .int .i64 0], .agg #[.slice (some ⟨h, 0, none⟩) 1 1, .int .i64 9, .slice none 0 0, .int .i64 0, .int .i64 0]] W' (Ret (.bool true) W') from fun W' a h hb h1 h2 => by
    have q := sameState_any s6 s6 A Ao (some ⟨h, 0, none⟩) none c co 1 0 W' (RS.out.below hb) (lit_reads h1 h2)
    rw [decide_eq_true rfl] at q; exact q)
  have HS1 := Lib.hid (show ∀ (W' : World), Below w6.heap.size w6 W' → Calls Tryz.prog 13 #[.agg #[.slice (some ⟨gp, 0, none⟩) 2 2], .agg #[.slice A 1 c, .int .i64 9, .slice Ao 0 co, .int .i64 0, .int .i64 0]] W' (Ret (.bool true) W') from fun W' hb => by
    have q := state_any twoP (some ⟨gp, 0, none⟩) A Ao 2 c co s6 W' (HL.out.below hb) (RP.out.below hb) (RS.out.below hb).fr HC.out (RS.out.below hb).out
    rw [sb61] at q; exact q)
  have HS2 := Lib.hid (show ∀ (W' : World), Below w6.heap.size w6 W' → Calls Tryz.prog 13 #[.agg #[.slice (some ⟨gp, 0, none⟩) 2 2], .agg #[.slice (some ⟨w4.heap.size + 1 + 1 + 1 + 1, 0, none⟩) 2 2, .int .i64 4, .slice none 0 0, .int .i64 0, .int .i64 0]] W' (Ret (.bool true) W') from fun W' hb => by
    have q := state_any twoP (some ⟨gp, 0, none⟩) (some ⟨w4.heap.size + 1 + 1 + 1 + 1, 0, none⟩) none 2 2 0 t6 W' (HL.out.below hb) (RP.out.below hb) (RT.out.below hb).fr (by decide) (RT.out.below hb).out
    rw [sb62] at q; exact q)
  have HS3 := Lib.hid (show ∀ (W' : World), Below w6.heap.size w6 W' → Calls Tryz.prog 13 #[.agg #[.slice (some ⟨gp, 0, none⟩) 2 2], .agg #[.slice (some ⟨g, off, none⟩) 2 d4, .int .i64 4, .slice Ao4 0 do4, .int .i64 0, .int .i64 0]] W' (Ret (.bool false) W') from fun W' hb => by
    have q := state_any twoP (some ⟨gp, 0, none⟩) (some ⟨g, off, none⟩) Ao4 2 d4 do4 bad6 W' (HL.out.below hb) (RP.out.below hb) (RB.out.below hb).fr HD4.out (RB.out.below hb).out
    rw [sb63] at q; exact q)
  have HM1 := Lib.hid (show ∀ (W' : World), Below w6.heap.size w6 W' → Calls Tryz.prog 11 #[.agg #[.slice (some ⟨gp, 0, none⟩) 2 2], .agg #[.int .i64 1, .int .i64 2, .slice (some ⟨w4.heap.size + 1 + 1, 0, none⟩) 2 2, .slice (some ⟨w4.heap.size + 1 + 1 + 1, 0, none⟩) 2 2]] W' (Ret (.bool true) W') from fun W' hb => by
    have q := mayF_any twoP (some ⟨gp, 0, none⟩) (some ⟨w4.heap.size + 1 + 1, 0, none⟩) (some ⟨w4.heap.size + 1 + 1 + 1, 0, none⟩) 2 2 2 ⟨1, 2, [5, 2], [5, 2]⟩ W' (HL.out.below hb) (RP.out.below hb) (intsL (xs := [5, 2]) (T2.out.below hb) (by simp)) (intsL (xs := [5, 2]) (T3.out.below hb) (by simp))
    rw [fm61] at q; exact q)
  have HM2 := Lib.hid (show ∀ (W' : World), Below w6.heap.size w6 W' → Calls Tryz.prog 11 #[.agg #[.slice (some ⟨gp, 0, none⟩) 2 2], .agg #[.int .i64 0, .int .i64 3, .slice (some ⟨w4.heap.size + 1, 0, none⟩) 1 1, .slice none 0 0]] W' (Ret (.bool false) W') from fun W' hb => by
    have q := mayF_any twoP (some ⟨gp, 0, none⟩) (some ⟨w4.heap.size + 1, 0, none⟩) none 2 1 0 ⟨0, 3, [5], []⟩ W' (HL.out.below hb) (RP.out.below hb) (intsL (xs := [5]) (T1.out.below hb) (by simp)) (reads_nil _ _)
    rw [fm62] at q; exact q)
  clear RP T1 T2 T3 RS RT RB HL P S T BD TF
  go_region_held3 (fun W' => W'.cell? ⟨w1.heap.size, 0, none⟩ = some (.slice (some ⟨gp, 0, none⟩) 2 2) ∧ W'.cell? ⟨w2.heap.size, 0, none⟩ = some (.slice A 1 c) ∧ W'.cell? ⟨w2.heap.size, 1, none⟩ = some (.int .i64 9) ∧ W'.cell? ⟨w2.heap.size, 2, none⟩ = some (.slice Ao 0 co) ∧ W'.cell? ⟨w2.heap.size, 3, none⟩ = some (.int .i64 0) ∧ W'.cell? ⟨w2.heap.size, 4, none⟩ = some (.int .i64 0) ∧ W'.cell? ⟨w4.heap.size + 1 + 1 + 1 + 1 + 1, 0, none⟩ = some (.slice (some ⟨w4.heap.size + 1 + 1 + 1 + 1, 0, none⟩) 2 2) ∧ W'.cell? ⟨w4.heap.size + 1 + 1 + 1 + 1 + 1, 1, none⟩ = some (.int .i64 4) ∧ W'.cell? ⟨w4.heap.size + 1 + 1 + 1 + 1 + 1, 2, none⟩ = some (.slice none 0 0) ∧ W'.cell? ⟨w4.heap.size + 1 + 1 + 1 + 1 + 1, 3, none⟩ = some (.int .i64 0) ∧ W'.cell? ⟨w4.heap.size + 1 + 1 + 1 + 1 + 1, 4, none⟩ = some (.int .i64 0) ∧ W'.cell? ⟨w5.heap.size, 0, none⟩ = some (.slice (some ⟨g, off, none⟩) 2 d4) ∧ W'.cell? ⟨w5.heap.size, 1, none⟩ = some (.int .i64 4) ∧ W'.cell? ⟨w5.heap.size, 2, none⟩ = some (.slice Ao4 0 do4) ∧ W'.cell? ⟨w5.heap.size, 3, none⟩ = some (.int .i64 0) ∧ W'.cell? ⟨w5.heap.size, 4, none⟩ = some (.int .i64 0) ∧ W'.cell? ⟨w4.heap.size + 1 + 1 + 1 + 1, 0, none⟩ = some (.int .i64 0) ∧ W'.cell? ⟨w4.heap.size + 1 + 1 + 1 + 1, 1, none⟩ = some (.int .i64 3) ∧ W'.cell? ⟨w4.heap.size + 1 + 1 + 1 + 1, 2, none⟩ = some (.slice (some ⟨w4.heap.size + 1, 0, none⟩) 1 1) ∧ W'.cell? ⟨w4.heap.size + 1 + 1 + 1 + 1, 3, none⟩ = some (.slice none 0 0) ∧ W'.cell? ⟨w4.heap.size + 1 + 1 + 1 + 1, 4, none⟩ = some (.int .i64 1) ∧ W'.cell? ⟨w4.heap.size + 1 + 1 + 1 + 1, 5, none⟩ = some (.int .i64 2) ∧ W'.cell? ⟨w4.heap.size + 1 + 1 + 1 + 1, 6, none⟩ = some (.slice (some ⟨w4.heap.size + 1 + 1, 0, none⟩) 2 2) ∧ W'.cell? ⟨w4.heap.size + 1 + 1 + 1 + 1, 7, none⟩ = some (.slice (some ⟨w4.heap.size + 1 + 1 + 1, 0, none⟩) 2 2) ∧ Below w6.heap.size w6 W')
    (exact HALL.out _ (by repeat (first | assumption | exact Below.refl _ _ | refine below_drw ?_ | refine below_drew ?_ _ | refine below_alloc ?_ _)))
    (first | (go_at_call 10; refine (numL_any _ _).mono ?_; rintro e wn ⟨rfl, rfl⟩) | (go_at_call 9; refine (HSS.out _ w6.heap.size (w6.heap.size + 1) (by repeat (first | assumption | exact Below.refl _ _ | refine below_drw ?_ | refine below_drew ?_ _ | refine below_alloc ?_ _)) (by exact (two_alloc w6 _ _).1) (by exact (two_alloc w6 _ _).2)).mono ?_; rintro e wa ⟨rfl, hb⟩; have HW := below_trans (show Below w6.heap.size w6 _ from (by repeat (first | assumption | exact Below.refl _ _ | refine below_drw ?_ | refine below_drew ?_ _ | refine below_alloc ?_ _))) hb; clear hb) | (go_at_call 13; (with_reducible refine (HS1.out _ ?_).mono ?_); (· exact (by repeat (first | assumption | exact Below.refl _ _ | refine below_drw ?_ | refine below_drew ?_ _ | refine below_alloc ?_ _))); rintro e wa ⟨rfl, hb⟩; have HW := below_trans (show Below w6.heap.size w6 _ from (by repeat (first | assumption | exact Below.refl _ _ | refine below_drw ?_ | refine below_drew ?_ _ | refine below_alloc ?_ _))) hb; clear hb) | (go_at_call 13; (with_reducible refine (HS2.out _ ?_).mono ?_); (· exact (by repeat (first | assumption | exact Below.refl _ _ | refine below_drw ?_ | refine below_drew ?_ _ | refine below_alloc ?_ _))); rintro e wa ⟨rfl, hb⟩; have HW := below_trans (show Below w6.heap.size w6 _ from (by repeat (first | assumption | exact Below.refl _ _ | refine below_drw ?_ | refine below_drew ?_ _ | refine below_alloc ?_ _))) hb; clear hb) | (go_at_call 13; (with_reducible refine (HS3.out _ ?_).mono ?_); (· exact (by repeat (first | assumption | exact Below.refl _ _ | refine below_drw ?_ | refine below_drew ?_ _ | refine below_alloc ?_ _))); rintro e wa ⟨rfl, hb⟩; have HW := below_trans (show Below w6.heap.size w6 _ from (by repeat (first | assumption | exact Below.refl _ _ | refine below_drw ?_ | refine below_drew ?_ _ | refine below_alloc ?_ _))) hb; clear hb) | (go_at_call 11; (with_reducible refine (HM1.out _ ?_).mono ?_); (· exact (by repeat (first | assumption | exact Below.refl _ _ | refine below_drw ?_ | refine below_drew ?_ _ | refine below_alloc ?_ _))); rintro e wa ⟨rfl, hb⟩; have HW := below_trans (show Below w6.heap.size w6 _ from (by repeat (first | assumption | exact Below.refl _ _ | refine below_drw ?_ | refine below_drew ?_ _ | refine below_alloc ?_ _))) hb; clear hb) | (go_at_call 11; (with_reducible refine (HM2.out _ ?_).mono ?_); (· exact (by repeat (first | assumption | exact Below.refl _ _ | refine below_drw ?_ | refine below_drew ?_ _ | refine below_alloc ?_ _))); rintro e wa ⟨rfl, hb⟩; have HW := below_trans (show Below w6.heap.size w6 _ from (by repeat (first | assumption | exact Below.refl _ _ | refine below_drw ?_ | refine below_drew ?_ _ | refine below_alloc ?_ _))) hb; clear hb))
  have HWW := Lib.hid (below_trans B.out HW)
  clear HW
  go_wp2_with fail
  go_ret
  exact ⟨rfl, HWW.out⟩
end Go.Proofs.YtdjlaglilokjeaaGreatDoor
