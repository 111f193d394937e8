/- The law ProfForms, walked: what a profile may not be, what may not be told it, one thing at a time. Condition: errors.errorType is laid. -/
import Derived.Test.YtpfgklkdldkajaaDoorPFull
namespace Go.Proofs.YtpfgklkdldkajaaDoor
open Go.RowKit

def pzS : List FPr := [⟨0, [0, 0, 0, 0], [0, 0, 0, 0], [⟨0, 0, 0⟩]⟩]
def pz1 : List FPr := [⟨0, [0, 1, 0, 0], [0, 0, 0, 0], [⟨0, 0, 0⟩]⟩]
theorem pzS_len : pzS.length = 1 := rfl
theorem pz1_len : pz1.length = 1 := rfl
theorem pz_fit : FitP pzS := ⟨by decide, fun f hf => by simp [pzS] at hf; subst hf; decide⟩
theorem pz_new : newR fullP = pzS ∧ newC fullP = 0 := ⟨by kernel_rfl, by kernel_rfl⟩
theorem pz_c1 : calledR fullP pzS 1 [1] = [] ∧ calledC fullP pzS 1 [1] = 900 := ⟨by kernel_rfl, by kernel_rfl⟩
theorem pz_c2 : calledR fullP pzS 0 [] = [] ∧ calledC fullP pzS 0 [] = 900 := ⟨by kernel_rfl, by kernel_rfl⟩
theorem pz_c3 {d : Int} (h1 : 1 ≤ d) : calledR fullP pzS 0 [2147483647 + d] = [] ∧ calledC fullP pzS 0 [2147483647 + d] = 900 := called_no (by unfold calledB; rw [show ([2147483647 + d] : List Int).all isNum = false by simp [isNum]; omega, Bool.and_false])
theorem pz_b1 : branchedR fullP pzS 0 0 true = [] ∧ branchedC fullP pzS 0 0 = 900 := ⟨by kernel_rfl, by kernel_rfl⟩
theorem pz_b2 : branchedR fullP pzS 0 4 true = [] ∧ branchedC fullP pzS 0 4 = 900 := ⟨by kernel_rfl, by kernel_rfl⟩
theorem pz_b3 {d : Int} (h1 : 1 ≤ d) : branchedR fullP pzS (-d) 1 true = [] ∧ branchedC fullP pzS (-d) 1 = 900 := branched_no (by unfold branchedB; rw [decide_eq_false (show ¬ 0 ≤ -d by omega)]; simp)
theorem pz_b4 : branchedR fullP pzS 0 1 true = pz1 ∧ branchedC fullP pzS 0 1 = 0 := ⟨by kernel_rfl, by kernel_rfl⟩
theorem fpr_bad {f : FPr} (h : fprB ⟨1, 1, fullC⟩ f = false) : profB fullP [f] = false := by
  show (_ && _ && (fprB ⟨1, 1, fullC⟩ f && true)) = false
  rw [h]; simp
theorem pfb0 {d : Int} (h1 : 1 ≤ d) (_h2 : d ≤ 1024) : profB fullP [⟨-d, [0, 0, 0, 0], [0, 0, 0, 0], [⟨0, 0, 0⟩]⟩] = false := fpr_bad (by simp [fprB, countsB, countB, argB, isNum]; omega)
theorem pfc0 {d : Int} (h1 : 1 ≤ d) (h2 : d ≤ 1024) : calledR fullP [⟨-d, [0, 0, 0, 0], [0, 0, 0, 0], [⟨0, 0, 0⟩]⟩] 0 [1] = [] ∧ calledC fullP [⟨-d, [0, 0, 0, 0], [0, 0, 0, 0], [⟨0, 0, 0⟩]⟩] 0 [1] = 900 := called_no (by unfold calledB; rw [pfb0 h1 h2]; rfl)
theorem pff0 (d : Int) : FitP [⟨-d, [0, 0, 0, 0], [0, 0, 0, 0], [⟨0, 0, 0⟩]⟩] := ⟨by simp, fun f hf => by simp at hf; subst hf; simp⟩
theorem pfb1 {d : Int} (h1 : 1 ≤ d) (_h2 : d ≤ 1024) : profB fullP [⟨1073741824 + d, [0, 0, 0, 0], [0, 0, 0, 0], [⟨0, 0, 0⟩]⟩] = false := fpr_bad (by simp [fprB, countsB, countB, argB, isNum]; omega)
theorem pfc1 {d : Int} (h1 : 1 ≤ d) (h2 : d ≤ 1024) : calledR fullP [⟨1073741824 + d, [0, 0, 0, 0], [0, 0, 0, 0], [⟨0, 0, 0⟩]⟩] 0 [1] = [] ∧ calledC fullP [⟨1073741824 + d, [0, 0, 0, 0], [0, 0, 0, 0], [⟨0, 0, 0⟩]⟩] 0 [1] = 900 := called_no (by unfold calledB; rw [pfb1 h1 h2]; rfl)
theorem pff1 (d : Int) : FitP [⟨1073741824 + d, [0, 0, 0, 0], [0, 0, 0, 0], [⟨0, 0, 0⟩]⟩] := ⟨by simp, fun f hf => by simp at hf; subst hf; simp⟩
theorem pfb2 {d : Int} (_h1 : 1 ≤ d) (_h2 : d ≤ 1024) : profB fullP [⟨0, [], [0, 0, 0, 0], [⟨0, 0, 0⟩]⟩] = false := by kernel_rfl
theorem pfc2 {d : Int} (h1 : 1 ≤ d) (h2 : d ≤ 1024) : calledR fullP [⟨0, [], [0, 0, 0, 0], [⟨0, 0, 0⟩]⟩] 0 [1] = [] ∧ calledC fullP [⟨0, [], [0, 0, 0, 0], [⟨0, 0, 0⟩]⟩] 0 [1] = 900 := called_no (by unfold calledB; rw [pfb2 h1 h2]; rfl)
theorem pff2 (_d : Int) : FitP [⟨0, [], [0, 0, 0, 0], [⟨0, 0, 0⟩]⟩] := ⟨by simp, fun f hf => by simp at hf; subst hf; simp⟩
theorem pfb3 {d : Int} (h1 : 1 ≤ d) (_h2 : d ≤ 1024) : profB fullP [⟨0, [0, 0, 0, 0], [0, 0, -d, 0], [⟨0, 0, 0⟩]⟩] = false := fpr_bad (by simp [fprB, countsB, countB, argB, isNum]; omega)
theorem pfc3 {d : Int} (h1 : 1 ≤ d) (h2 : d ≤ 1024) : calledR fullP [⟨0, [0, 0, 0, 0], [0, 0, -d, 0], [⟨0, 0, 0⟩]⟩] 0 [1] = [] ∧ calledC fullP [⟨0, [0, 0, 0, 0], [0, 0, -d, 0], [⟨0, 0, 0⟩]⟩] 0 [1] = 900 := called_no (by unfold calledB; rw [pfb3 h1 h2]; rfl)
theorem pff3 (d : Int) : FitP [⟨0, [0, 0, 0, 0], [0, 0, -d, 0], [⟨0, 0, 0⟩]⟩] := ⟨by simp, fun f hf => by simp at hf; subst hf; simp⟩
theorem pfb4 {d : Int} (_h1 : 1 ≤ d) (_h2 : d ≤ 1024) : profB fullP [⟨0, [0, 0, 0, 0], [0, 0, 0, 0], []⟩] = false := by kernel_rfl
theorem pfc4 {d : Int} (h1 : 1 ≤ d) (h2 : d ≤ 1024) : calledR fullP [⟨0, [0, 0, 0, 0], [0, 0, 0, 0], []⟩] 0 [1] = [] ∧ calledC fullP [⟨0, [0, 0, 0, 0], [0, 0, 0, 0], []⟩] 0 [1] = 900 := called_no (by unfold calledB; rw [pfb4 h1 h2]; rfl)
theorem pff4 (_d : Int) : FitP [⟨0, [0, 0, 0, 0], [0, 0, 0, 0], []⟩] := ⟨by simp, fun f hf => by simp at hf; subst hf; simp⟩
theorem pfb5 {d : Int} (h1 : 1 ≤ d) (_h2 : d ≤ 1024) : profB fullP [⟨0, [0, 0, 0, 0], [0, 0, 0, 0], [⟨2147483647 + d, 0, 0⟩]⟩] = false := fpr_bad (by simp [fprB, countsB, countB, argB, isNum]; omega)
theorem pfc5 {d : Int} (h1 : 1 ≤ d) (h2 : d ≤ 1024) : calledR fullP [⟨0, [0, 0, 0, 0], [0, 0, 0, 0], [⟨2147483647 + d, 0, 0⟩]⟩] 0 [1] = [] ∧ calledC fullP [⟨0, [0, 0, 0, 0], [0, 0, 0, 0], [⟨2147483647 + d, 0, 0⟩]⟩] 0 [1] = 900 := called_no (by unfold calledB; rw [pfb5 h1 h2]; rfl)
theorem pff5 (d : Int) : FitP [⟨0, [0, 0, 0, 0], [0, 0, 0, 0], [⟨2147483647 + d, 0, 0⟩]⟩] := ⟨by simp, fun f hf => by simp at hf; subst hf; simp⟩
theorem pfb6 {d : Int} (h1 : 1 ≤ d) (_h2 : d ≤ 1024) : profB fullP [⟨0, [0, 0, 0, 0], [0, 0, 0, 0], [⟨0, 1073741824 + d, 0⟩]⟩] = false := fpr_bad (by simp [fprB, countsB, countB, argB, isNum]; omega)
theorem pfc6 {d : Int} (h1 : 1 ≤ d) (h2 : d ≤ 1024) : calledR fullP [⟨0, [0, 0, 0, 0], [0, 0, 0, 0], [⟨0, 1073741824 + d, 0⟩]⟩] 0 [1] = [] ∧ calledC fullP [⟨0, [0, 0, 0, 0], [0, 0, 0, 0], [⟨0, 1073741824 + d, 0⟩]⟩] 0 [1] = 900 := called_no (by unfold calledB; rw [pfb6 h1 h2]; rfl)
theorem pff6 (d : Int) : FitP [⟨0, [0, 0, 0, 0], [0, 0, 0, 0], [⟨0, 1073741824 + d, 0⟩]⟩] := ⟨by simp, fun f hf => by simp at hf; subst hf; simp⟩
theorem pfb7 {d : Int} (h1 : 1 ≤ d) (_h2 : d ≤ 1024) : profB fullP [⟨0, [0, 0, 0, 0], [0, 0, 0, 0], [⟨0, 0, -d⟩]⟩] = false := fpr_bad (by simp [fprB, countsB, countB, argB, isNum]; omega)
theorem pfc7 {d : Int} (h1 : 1 ≤ d) (h2 : d ≤ 1024) : calledR fullP [⟨0, [0, 0, 0, 0], [0, 0, 0, 0], [⟨0, 0, -d⟩]⟩] 0 [1] = [] ∧ calledC fullP [⟨0, [0, 0, 0, 0], [0, 0, 0, 0], [⟨0, 0, -d⟩]⟩] 0 [1] = 900 := called_no (by unfold calledB; rw [pfb7 h1 h2]; rfl)
theorem pff7 (d : Int) : FitP [⟨0, [0, 0, 0, 0], [0, 0, 0, 0], [⟨0, 0, -d⟩]⟩] := ⟨by simp, fun f hf => by simp at hf; subst hf; simp⟩
theorem pfb8 {d : Int} (_h1 : 1 ≤ d) (_h2 : d ≤ 1024) : profB fullP [] = false := by kernel_rfl
theorem pfc8 {d : Int} (h1 : 1 ≤ d) (h2 : d ≤ 1024) : calledR fullP [] 0 [1] = [] ∧ calledC fullP [] 0 [1] = 900 := called_no (by unfold calledB; rw [pfb8 h1 h2]; rfl)
theorem pff8 (_d : Int) : FitP [] := ⟨by simp, fun f hf => by simp at hf⟩
theorem copyPr_n (A : Option Addr) (c n : Nat) (r : List FPr) (w : World) (hr : ReadsP w A r) (hz : FitP r) (e : r.length = n) :
    Calls Tryd.prog 23 #[.agg #[.slice A n c]] w fun e w' => ∃ ao cap vss, e = .returned (.agg #[.slice ao n cap]) ∧ OwnPr w' w.heap.size (.slice ao n cap) r vss ∧ Below w.heap.size w w' := by
  subst e; exact copyProf_any A c r w hr hz
set_option maxRecDepth 100000 in
set_option maxHeartbeats 32000000 in
theorem profForms_yes (which x : Int) (W : World) (hl : Laid W) : Calls Tryd.prog 5 #[.int .i64 which, .int .i64 x] W (Ret (.bool true) W) := by
  have H := Lib.hid (awake9_any W hl)
  have HL := Lib.hid hl
  have B := Lib.hid (Below.refl W.heap.size W)
  obtain ⟨m, hm, m0, m1⟩ : ∃ m : Int, bits .and .i64 x 1023 = m ∧ 0 ≤ m ∧ m ≤ 1023 := ⟨x % 1024, i64_m1023 _, by omega, by omega⟩
  obtain ⟨k, hk, hk9⟩ := u64_remu which 9 (by decide)
  replace hk : (IntKind.u64.wrap which).tmod 9 = k := hk
  have hd1 : 1 ≤ 1 + m := by omega
  have hd2 : 1 + m ≤ 1024 := by omega
  clear hl
  go_enter Tryd.func5, Tryd.ntmps5
  go_wp2_with fail
  (with_reducible refine H.out.mono ?_)
  rintro e w1 ⟨rfl, hB⟩
  clear H
  replace HL := Lib.hid (HL.out.below hB)
  replace B := Lib.hid (below_trans B.out hB)
  clear hB
  have hb : Below w1.heap.size w1 (((w1.alloc (.cells #[.int .i64 1, .int .i64 0, .int .i64 13, .int .i64 0, .int .i64 0, .int .i64 1, .int .i64 16, .int .i64 0] 28)).alloc (.cells #[.int .i64 1, .int .i64 1, .slice (some ⟨w1.heap.size, 0, none⟩) 4 4] 31)).alloc (.cells #[.slice (some ⟨w1.heap.size + 1, 0, none⟩) 1 1] 24)) := allocsL_below [.cells #[.int .i64 1, .int .i64 0, .int .i64 13, .int .i64 0, .int .i64 0, .int .i64 1, .int .i64 16, .int .i64 0] 28, .cells #[.int .i64 1, .int .i64 1, .slice (some ⟨w1.heap.size, 0, none⟩) 4 4] 31, .cells #[.slice (some ⟨w1.heap.size + 1, 0, none⟩) 1 1] 24] w1
  replace HL := Lib.hid (HL.out.below hb)
  replace B := Lib.hid (below_trans B.out hb)
  have C := Lib.hid (show RowAt 28 (w1.heap.size) [.int .i64 1, .int .i64 0, .int .i64 13, .int .i64 0, .int .i64 0, .int .i64 1, .int .i64 16, .int .i64 0] (((w1.alloc (.cells #[.int .i64 1, .int .i64 0, .int .i64 13, .int .i64 0, .int .i64 0, .int .i64 1, .int .i64 16, .int .i64 0] 28)).alloc (.cells #[.int .i64 1, .int .i64 1, .slice (some ⟨w1.heap.size, 0, none⟩) 4 4] 31)).alloc (.cells #[.slice (some ⟨w1.heap.size + 1, 0, none⟩) 1 1] 24)) from rowL (w := w1) (os := [.cells #[.int .i64 1, .int .i64 0, .int .i64 13, .int .i64 0, .int .i64 0, .int .i64 1, .int .i64 16, .int .i64 0] 28, .cells #[.int .i64 1, .int .i64 1, .slice (some ⟨w1.heap.size, 0, none⟩) 4 4] 31, .cells #[.slice (some ⟨w1.heap.size + 1, 0, none⟩) 1 1] 24]) (i := 0) (cs := [.int .i64 1, .int .i64 0, .int .i64 13, .int .i64 0, .int .i64 0, .int .i64 1, .int .i64 16, .int .i64 0]) (by simp) rfl)
  have F := Lib.hid (show RowAt 31 (w1.heap.size + 1) [.int .i64 1, .int .i64 1, .slice (some ⟨w1.heap.size, 0, none⟩) 4 4] (((w1.alloc (.cells #[.int .i64 1, .int .i64 0, .int .i64 13, .int .i64 0, .int .i64 0, .int .i64 1, .int .i64 16, .int .i64 0] 28)).alloc (.cells #[.int .i64 1, .int .i64 1, .slice (some ⟨w1.heap.size, 0, none⟩) 4 4] 31)).alloc (.cells #[.slice (some ⟨w1.heap.size + 1, 0, none⟩) 1 1] 24)) from rowL (w := w1) (os := [.cells #[.int .i64 1, .int .i64 0, .int .i64 13, .int .i64 0, .int .i64 0, .int .i64 1, .int .i64 16, .int .i64 0] 28, .cells #[.int .i64 1, .int .i64 1, .slice (some ⟨w1.heap.size, 0, none⟩) 4 4] 31, .cells #[.slice (some ⟨w1.heap.size + 1, 0, none⟩) 1 1] 24]) (i := 1) (cs := [.int .i64 1, .int .i64 1, .slice (some ⟨w1.heap.size, 0, none⟩) 4 4]) (by simp) rfl)
  have P := Lib.hid (show RowAt 24 (w1.heap.size + 1 + 1) [.slice (some ⟨w1.heap.size + 1, 0, none⟩) 1 1] (((w1.alloc (.cells #[.int .i64 1, .int .i64 0, .int .i64 13, .int .i64 0, .int .i64 0, .int .i64 1, .int .i64 16, .int .i64 0] 28)).alloc (.cells #[.int .i64 1, .int .i64 1, .slice (some ⟨w1.heap.size, 0, none⟩) 4 4] 31)).alloc (.cells #[.slice (some ⟨w1.heap.size + 1, 0, none⟩) 1 1] 24)) from rowL (w := w1) (os := [.cells #[.int .i64 1, .int .i64 0, .int .i64 13, .int .i64 0, .int .i64 0, .int .i64 1, .int .i64 16, .int .i64 0] 28, .cells #[.int .i64 1, .int .i64 1, .slice (some ⟨w1.heap.size, 0, none⟩) 4 4] 31, .cells #[.slice (some ⟨w1.heap.size + 1, 0, none⟩) 1 1] 24]) (i := 2) (cs := [.slice (some ⟨w1.heap.size + 1, 0, none⟩) 1 1]) (by simp) rfl)
  clear hb
  have RP := Lib.hid (one_fn (f := ⟨1, 1, fullC⟩) F.out (codeL (xs := fullC) C.out (by decide)))
  clear C F
  have c0 := P.out.cell (k := 0) (by simp)
  simp only [List.getElem_cons_zero] at c0
  have H := Lib.hid (newP_n fullP 1 (some ⟨w1.heap.size + 1, 0, none⟩) 1 (((w1.alloc (.cells #[.int .i64 1, .int .i64 0, .int .i64 13, .int .i64 0, .int .i64 0, .int .i64 1, .int .i64 16, .int .i64 0] 28)).alloc (.cells #[.int .i64 1, .int .i64 1, .slice (some ⟨w1.heap.size, 0, none⟩) 4 4] 31)).alloc (.cells #[.slice (some ⟨w1.heap.size + 1, 0, none⟩) 1 1] 24)) HL.out RP.out rfl pz_new.1 pz_new.2 pzS_len)
  go_wp2_with (first | (go_at_call 15; (with_reducible refine (numL_any _ _).mono ?_); rintro e wn ⟨rfl, rfl⟩) | fail)
  (with_reducible refine H.out.mono ?_)
  rintro e w2 ⟨A, dA, vA, rfl, ho, hB⟩
  clear H c0
  replace HL := Lib.hid (HL.out.below hB)
  replace B := Lib.hid (below_trans B.out hB)
  replace P := Lib.hid (P.out.below hB)
  replace RP := Lib.hid (RP.out.below hB)
  have O := Lib.hid (ho)
  clear hB ho
  have c1 := P.out.cell (k := 0) (by simp)
  simp only [List.getElem_cons_zero] at c1
  have c2 := cell_below (show Below w2.heap.size w2 (w2.alloc (.cells #[.slice A 1 dA] 44)) from allocsL_below [.cells #[.slice A 1 dA] 44] w2) c1
  have hb : Below w2.heap.size w2 ((w2.alloc (.cells #[.slice A 1 dA] 44)).alloc (.cells #[.int .i64 1] 3)) := allocsL_below [.cells #[.slice A 1 dA] 44, .cells #[.int .i64 1] 3] w2
  replace HL := Lib.hid (HL.out.below hb)
  replace B := Lib.hid (below_trans B.out hb)
  replace P := Lib.hid (P.out.below hb)
  replace RP := Lib.hid (RP.out.below hb)
  replace O := Lib.hid (O.out.below hb)
  have Q := Lib.hid (show RowAt 44 (w2.heap.size) [.slice A 1 dA] ((w2.alloc (.cells #[.slice A 1 dA] 44)).alloc (.cells #[.int .i64 1] 3)) from rowL (w := w2) (os := [.cells #[.slice A 1 dA] 44, .cells #[.int .i64 1] 3]) (i := 0) (cs := [.slice A 1 dA]) (by simp) rfl)
  have T := Lib.hid (show RowAt 3 (w2.heap.size + 1) [.int .i64 1] ((w2.alloc (.cells #[.slice A 1 dA] 44)).alloc (.cells #[.int .i64 1] 3)) from rowL (w := w2) (os := [.cells #[.slice A 1 dA] 44, .cells #[.int .i64 1] 3]) (i := 1) (cs := [.int .i64 1]) (by simp) rfl)
  clear hb
  have c3 := P.out.cell (k := 0) (by simp)
  simp only [List.getElem_cons_zero] at c3
  have c4 := Q.out.cell (k := 0) (by simp)
  simp only [List.getElem_cons_zero] at c4
  have H := Lib.hid (calledP_m fullP 1 pzS 1 1 [1] 1 (some ⟨w1.heap.size + 1, 0, none⟩) A (some ⟨w2.heap.size + 1, 0, none⟩) 1 dA 1 ((w2.alloc (.cells #[.slice A 1 dA] 44)).alloc (.cells #[.int .i64 1] 3)) HL.out RP.out O.out.reads.2 (intsL (xs := [1]) T.out (by simp)) pz_fit rfl rfl rfl pz_c1.1 pz_c1.2 len0)
  go_wp2_with (first | (go_at_call 15; (with_reducible refine (numL_any _ _).mono ?_); rintro e wn ⟨rfl, rfl⟩) | fail)
  (with_reducible refine H.out.mono ?_)
  rintro e w3 ⟨A3, d3, v3, rfl, -, hB⟩
  clear H c1 c2 c3 c4
  replace HL := Lib.hid (HL.out.below hB)
  replace B := Lib.hid (below_trans B.out hB)
  replace P := Lib.hid (P.out.below hB)
  replace RP := Lib.hid (RP.out.below hB)
  replace O := Lib.hid (O.out.below hB)
  replace Q := Lib.hid (Q.out.below hB)
  replace T := Lib.hid (T.out.below hB)
  clear hB
  clear T
  have c5 := P.out.cell (k := 0) (by simp)
  simp only [List.getElem_cons_zero] at c5
  have c6 := Q.out.cell (k := 0) (by simp)
  simp only [List.getElem_cons_zero] at c6
  have hb : Below w3.heap.size w3 (w3.alloc (.cells #[.slice A3 0 d3] 44)) := allocsL_below [.cells #[.slice A3 0 d3] 44] w3
  replace HL := Lib.hid (HL.out.below hb)
  replace B := Lib.hid (below_trans B.out hb)
  replace P := Lib.hid (P.out.below hb)
  replace RP := Lib.hid (RP.out.below hb)
  replace O := Lib.hid (O.out.below hb)
  replace Q := Lib.hid (Q.out.below hb)
  clear hb
  have c7 := P.out.cell (k := 0) (by simp)
  simp only [List.getElem_cons_zero] at c7
  have c8 := Q.out.cell (k := 0) (by simp)
  simp only [List.getElem_cons_zero] at c8
  have H := Lib.hid (calledP_m fullP 1 pzS 1 0 [] 0 (some ⟨w1.heap.size + 1, 0, none⟩) A none 1 dA 0 (w3.alloc (.cells #[.slice A3 0 d3] 44)) HL.out RP.out O.out.reads.2 (reads_nil _ _) pz_fit rfl rfl rfl pz_c2.1 pz_c2.2 len0)
  go_wp2_with (first | (go_at_call 15; (with_reducible refine (numL_any _ _).mono ?_); rintro e wn ⟨rfl, rfl⟩) | fail)
  (with_reducible refine H.out.mono ?_)
  rintro e w4 ⟨A4, d4, v4, rfl, -, hB⟩
  clear H c5 c6 c7 c8
  replace HL := Lib.hid (HL.out.below hB)
  replace B := Lib.hid (below_trans B.out hB)
  replace P := Lib.hid (P.out.below hB)
  replace RP := Lib.hid (RP.out.below hB)
  replace O := Lib.hid (O.out.below hB)
  replace Q := Lib.hid (Q.out.below hB)
  clear hB
  have c9 := P.out.cell (k := 0) (by simp)
  simp only [List.getElem_cons_zero] at c9
  have c10 := cell_below (show Below w4.heap.size w4 (w4.alloc (.cells #[.slice A4 0 d4] 44)) from allocsL_below [.cells #[.slice A4 0 d4] 44] w4) c9
  have c11 := Q.out.cell (k := 0) (by simp)
  simp only [List.getElem_cons_zero] at c11
  have c12 := cell_below (show Below w4.heap.size w4 (w4.alloc (.cells #[.slice A4 0 d4] 44)) from allocsL_below [.cells #[.slice A4 0 d4] 44] w4) c11
  have hb : Below w4.heap.size w4 ((w4.alloc (.cells #[.slice A4 0 d4] 44)).alloc (.cells #[.int .i64 (2147483647 + (1 + m))] 3)) := allocsL_below [.cells #[.slice A4 0 d4] 44, .cells #[.int .i64 (2147483647 + (1 + m))] 3] w4
  replace HL := Lib.hid (HL.out.below hb)
  replace B := Lib.hid (below_trans B.out hb)
  replace P := Lib.hid (P.out.below hb)
  replace RP := Lib.hid (RP.out.below hb)
  replace O := Lib.hid (O.out.below hb)
  replace Q := Lib.hid (Q.out.below hb)
  have T := Lib.hid (show RowAt 3 (w4.heap.size + 1) [.int .i64 (2147483647 + (1 + m))] ((w4.alloc (.cells #[.slice A4 0 d4] 44)).alloc (.cells #[.int .i64 (2147483647 + (1 + m))] 3)) from rowL (w := w4) (os := [.cells #[.slice A4 0 d4] 44, .cells #[.int .i64 (2147483647 + (1 + m))] 3]) (i := 1) (cs := [.int .i64 (2147483647 + (1 + m))]) (by simp) rfl)
  clear hb
  have c13 := P.out.cell (k := 0) (by simp)
  simp only [List.getElem_cons_zero] at c13
  have c14 := Q.out.cell (k := 0) (by simp)
  simp only [List.getElem_cons_zero] at c14
  have H := Lib.hid (calledP_m fullP 1 pzS 1 0 [2147483647 + (1 + m)] 1 (some ⟨w1.heap.size + 1, 0, none⟩) A (some ⟨w4.heap.size + 1, 0, none⟩) 1 dA 1 ((w4.alloc (.cells #[.slice A4 0 d4] 44)).alloc (.cells #[.int .i64 (2147483647 + (1 + m))] 3)) HL.out RP.out O.out.reads.2 (intsL (xs := [2147483647 + (1 + m)]) T.out (by simp)) pz_fit rfl rfl rfl (pz_c3 hd1).1 (pz_c3 hd1).2 len0)
  go_wp2_with (first | (go_at_call 15; (with_reducible refine (numL_any _ _).mono ?_); rintro e wn ⟨rfl, rfl⟩) | fail)
  (with_reducible refine H.out.mono ?_)
  rintro e w5 ⟨A5, d5, v5, rfl, -, hB⟩
  clear H c9 c10 c11 c12 c13 c14
  replace HL := Lib.hid (HL.out.below hB)
  replace B := Lib.hid (below_trans B.out hB)
  replace P := Lib.hid (P.out.below hB)
  replace RP := Lib.hid (RP.out.below hB)
  replace O := Lib.hid (O.out.below hB)
  replace Q := Lib.hid (Q.out.below hB)
  replace T := Lib.hid (T.out.below hB)
  clear hB
  clear T
  have c15 := P.out.cell (k := 0) (by simp)
  simp only [List.getElem_cons_zero] at c15
  have c16 := Q.out.cell (k := 0) (by simp)
  simp only [List.getElem_cons_zero] at c16
  have hb : Below w5.heap.size w5 (w5.alloc (.cells #[.slice A5 0 d5] 44)) := allocsL_below [.cells #[.slice A5 0 d5] 44] w5
  replace HL := Lib.hid (HL.out.below hb)
  replace B := Lib.hid (below_trans B.out hb)
  replace P := Lib.hid (P.out.below hb)
  replace RP := Lib.hid (RP.out.below hb)
  replace O := Lib.hid (O.out.below hb)
  replace Q := Lib.hid (Q.out.below hb)
  clear hb
  have c17 := P.out.cell (k := 0) (by simp)
  simp only [List.getElem_cons_zero] at c17
  have c18 := Q.out.cell (k := 0) (by simp)
  simp only [List.getElem_cons_zero] at c18
  have H := Lib.hid (branchedP_m fullP 1 pzS 1 0 0 true (some ⟨w1.heap.size + 1, 0, none⟩) A 1 dA (w5.alloc (.cells #[.slice A5 0 d5] 44)) HL.out RP.out O.out.reads.2 pz_fit rfl rfl pz_b1.1 pz_b1.2 len0)
  go_wp2_with (first | (go_at_call 15; (with_reducible refine (numL_any _ _).mono ?_); rintro e wn ⟨rfl, rfl⟩) | fail)
  (with_reducible refine H.out.mono ?_)
  rintro e w6 ⟨A6, d6, v6, rfl, -, hB⟩
  clear H c15 c16 c17 c18
  replace HL := Lib.hid (HL.out.below hB)
  replace B := Lib.hid (below_trans B.out hB)
  replace P := Lib.hid (P.out.below hB)
  replace RP := Lib.hid (RP.out.below hB)
  replace O := Lib.hid (O.out.below hB)
  replace Q := Lib.hid (Q.out.below hB)
  clear hB
  have c19 := P.out.cell (k := 0) (by simp)
  simp only [List.getElem_cons_zero] at c19
  have c20 := Q.out.cell (k := 0) (by simp)
  simp only [List.getElem_cons_zero] at c20
  have hb : Below w6.heap.size w6 (w6.alloc (.cells #[.slice A6 0 d6] 44)) := allocsL_below [.cells #[.slice A6 0 d6] 44] w6
  replace HL := Lib.hid (HL.out.below hb)
  replace B := Lib.hid (below_trans B.out hb)
  replace P := Lib.hid (P.out.below hb)
  replace RP := Lib.hid (RP.out.below hb)
  replace O := Lib.hid (O.out.below hb)
  replace Q := Lib.hid (Q.out.below hb)
  clear hb
  have c21 := P.out.cell (k := 0) (by simp)
  simp only [List.getElem_cons_zero] at c21
  have c22 := Q.out.cell (k := 0) (by simp)
  simp only [List.getElem_cons_zero] at c22
  have H := Lib.hid (branchedP_m fullP 1 pzS 1 0 4 true (some ⟨w1.heap.size + 1, 0, none⟩) A 1 dA (w6.alloc (.cells #[.slice A6 0 d6] 44)) HL.out RP.out O.out.reads.2 pz_fit rfl rfl pz_b2.1 pz_b2.2 len0)
  go_wp2_with (first | (go_at_call 15; (with_reducible refine (numL_any _ _).mono ?_); rintro e wn ⟨rfl, rfl⟩) | fail)
  (with_reducible refine H.out.mono ?_)
  rintro e w7 ⟨A7, d7, v7, rfl, -, hB⟩
  clear H c19 c20 c21 c22
  replace HL := Lib.hid (HL.out.below hB)
  replace B := Lib.hid (below_trans B.out hB)
  replace P := Lib.hid (P.out.below hB)
  replace RP := Lib.hid (RP.out.below hB)
  replace O := Lib.hid (O.out.below hB)
  replace Q := Lib.hid (Q.out.below hB)
  clear hB
  have c23 := P.out.cell (k := 0) (by simp)
  simp only [List.getElem_cons_zero] at c23
  have c24 := Q.out.cell (k := 0) (by simp)
  simp only [List.getElem_cons_zero] at c24
  have hb : Below w7.heap.size w7 (w7.alloc (.cells #[.slice A7 0 d7] 44)) := allocsL_below [.cells #[.slice A7 0 d7] 44] w7
  replace HL := Lib.hid (HL.out.below hb)
  replace B := Lib.hid (below_trans B.out hb)
  replace P := Lib.hid (P.out.below hb)
  replace RP := Lib.hid (RP.out.below hb)
  replace O := Lib.hid (O.out.below hb)
  replace Q := Lib.hid (Q.out.below hb)
  clear hb
  have c25 := P.out.cell (k := 0) (by simp)
  simp only [List.getElem_cons_zero] at c25
  have c26 := Q.out.cell (k := 0) (by simp)
  simp only [List.getElem_cons_zero] at c26
  have H := Lib.hid (branchedP_m fullP 1 pzS 1 (-(1 + m)) 1 true (some ⟨w1.heap.size + 1, 0, none⟩) A 1 dA (w7.alloc (.cells #[.slice A7 0 d7] 44)) HL.out RP.out O.out.reads.2 pz_fit rfl rfl (pz_b3 hd1).1 (pz_b3 hd1).2 len0)
  go_wp2_with (first | (go_at_call 15; (with_reducible refine (numL_any _ _).mono ?_); rintro e wn ⟨rfl, rfl⟩) | fail)
  (with_reducible refine H.out.mono ?_)
  rintro e w8 ⟨A8, d8, v8, rfl, -, hB⟩
  clear H c23 c24 c25 c26
  replace HL := Lib.hid (HL.out.below hB)
  replace B := Lib.hid (below_trans B.out hB)
  replace P := Lib.hid (P.out.below hB)
  replace RP := Lib.hid (RP.out.below hB)
  replace O := Lib.hid (O.out.below hB)
  replace Q := Lib.hid (Q.out.below hB)
  clear hB
  have c27 := P.out.cell (k := 0) (by simp)
  simp only [List.getElem_cons_zero] at c27
  have c28 := Q.out.cell (k := 0) (by simp)
  simp only [List.getElem_cons_zero] at c28
  have hb : Below w8.heap.size w8 (w8.alloc (.cells #[.slice A8 0 d8] 44)) := allocsL_below [.cells #[.slice A8 0 d8] 44] w8
  replace HL := Lib.hid (HL.out.below hb)
  replace B := Lib.hid (below_trans B.out hb)
  replace P := Lib.hid (P.out.below hb)
  replace RP := Lib.hid (RP.out.below hb)
  replace O := Lib.hid (O.out.below hb)
  replace Q := Lib.hid (Q.out.below hb)
  clear hb
  have c29 := P.out.cell (k := 0) (by simp)
  simp only [List.getElem_cons_zero] at c29
  have c30 := Q.out.cell (k := 0) (by simp)
  simp only [List.getElem_cons_zero] at c30
  have H := Lib.hid (branchedP_m fullP 1 pzS 1 0 1 true (some ⟨w1.heap.size + 1, 0, none⟩) A 1 dA (w8.alloc (.cells #[.slice A8 0 d8] 44)) HL.out RP.out O.out.reads.2 pz_fit rfl rfl pz_b4.1 pz_b4.2 pz1_len)
  go_wp2_with (first | (go_at_call 15; (with_reducible refine (numL_any _ _).mono ?_); rintro e wn ⟨rfl, rfl⟩) | fail)
  (with_reducible refine H.out.mono ?_)
  rintro e w9 ⟨A9, d9, v9, rfl, -, hB⟩
  clear H c27 c28 c29 c30
  replace HL := Lib.hid (HL.out.below hB)
  replace B := Lib.hid (below_trans B.out hB)
  replace P := Lib.hid (P.out.below hB)
  replace RP := Lib.hid (RP.out.below hB)
  replace O := Lib.hid (O.out.below hB)
  replace Q := Lib.hid (Q.out.below hB)
  clear hB
  have c31 := P.out.cell (k := 0) (by simp)
  simp only [List.getElem_cons_zero] at c31
  have c32 := Q.out.cell (k := 0) (by simp)
  simp only [List.getElem_cons_zero] at c32
  have hb : Below w9.heap.size w9 (w9.alloc (.cells #[.slice A9 1 d9] 44)) := allocsL_below [.cells #[.slice A9 1 d9] 44] w9
  replace HL := Lib.hid (HL.out.below hb)
  replace B := Lib.hid (below_trans B.out hb)
  replace P := Lib.hid (P.out.below hb)
  replace RP := Lib.hid (RP.out.below hb)
  replace O := Lib.hid (O.out.below hb)
  replace Q := Lib.hid (Q.out.below hb)
  have R := Lib.hid (show RowAt 44 (w9.heap.size) [.slice A9 1 d9] (w9.alloc (.cells #[.slice A9 1 d9] 44)) from rowL (w := w9) (os := [.cells #[.slice A9 1 d9] 44]) (i := 0) (cs := [.slice A9 1 d9]) (by simp) rfl)
  clear hb
  have c33 := Q.out.cell (k := 0) (by simp)
  simp only [List.getElem_cons_zero] at c33
  have H := Lib.hid (copyPr_n A dA 1 pzS (w9.alloc (.cells #[.slice A9 1 d9] 44)) O.out.reads.2 pz_fit rfl)
  go_wp2_with (first | (go_at_call 15; (with_reducible refine (numL_any _ _).mono ?_); rintro e wn ⟨rfl, rfl⟩) | fail)
  generalize hw9 : (w9.alloc (.cells #[.slice A9 1 d9] 44)) = w9a at *
  clear hw9
  (with_reducible refine H.out.mono ?_)
  rintro e w10 ⟨ao, cp, vss, rfl, ho, hB⟩
  clear H O Q c31 c32 c33
  have hba : Below w10.heap.size w10 (w10.alloc (.cells #[.slice ao 1 cp] 44)) := below_alloc (Below.refl _ _) _
  have R8 := Lib.hid (RowAt.new 44 [.slice ao 1 cp] w10)
  have O8 := Lib.hid (OwnPr.below ho hba)
  have BA := Lib.hid (below_trans hB hba)
  have FL := Lib.hid (OwnG.lo ho)
  have LT := Lib.hid (show w9a.heap.size ≤ w10.heap.size from hB.size)
  obtain ⟨g, off, eA, -⟩ := OwnPr.at_ ho (k := 0) (by decide)
  subst eA
  clear hba ho hB
  go_upto_region 16 with fail
  generalize hwa : (w10.alloc (.cells #[.slice (some ⟨g, off, none⟩) 1 cp] 44)) = wa at *
  clear hwa
  obtain ⟨_, _, eg, -, -, hob, hk0, B1, b1, B2, b2, B3, b3, ev, i1, i2, i3, n0, n1, n2, n3, fz⟩ := OwnPr.at_ O8.out (k := 0) (by decide)
  cases eg
  obtain ⟨gf, of, ef, -, hobf, cf, zf⟩ := ints_atC i2 (j := 2) (by decide)
  subst ef
  obtain ⟨ga, oa, ea, -, hoba, a0, a1, a2, za0, za1, za2⟩ := args_at i3 (j := 0) (by decide)
  subst ea
  simp only [show pzS[0].args = [⟨0, 0, 0⟩] from rfl, show pzS[0].jumps = [0, 0, 0, 0] from rfl, show pzS[0].falls = [0, 0, 0, 0] from rfl, show pzS[0].calls = 0 from rfl, List.getElem_cons_zero, List.getElem_cons_succ, List.length_cons, List.length_nil, Nat.zero_mul, Nat.add_zero, Nat.zero_add, Nat.reduceAdd] at n0 n1 n2 n3 a0 a1 a2 cf ev
  have z0 := fz 0 (by decide)
  have z1 := fz 1 (by decide)
  have z3 := fz 3 (by decide)
  simp only [Nat.zero_mul, Nat.add_zero] at z0 z1 z3 za0 za1 za2
  have EV := Lib.hid ev
  have OB := Lib.hid hob
  clear ev hob fz i1 i2 i3 hobf hoba
  have r8 := R8.out.cell (k := 0) (by simp)
  simp only [List.getElem_cons_zero] at r8
  have zr := R8.out.free 0
  obtain rfl | rfl | rfl | rfl | rfl | rfl | rfl | rfl | rfl : k = 0 ∨ k = 1 ∨ k = 2 ∨ k = 3 ∨ k = 4 ∨ k = 5 ∨ k = 6 ∨ k = 7 ∨ k = 8 := by omega
  · skip
    have hput := OwnPr.put_calls O8.out (k := 0) (by decide) hk0 (f := pzS[0]) rfl (-(1 + m))
    simp only [Nat.zero_mul, Nat.add_zero] at hput
    have hput : OwnPr (wa.setCell ⟨g, off, none⟩ (.int .i64 (-(1 + m)))) w9a.heap.size (.slice (some ⟨g, off, none⟩) 1 cp) [⟨-(1 + m), [0, 0, 0, 0], [0, 0, 0, 0], [⟨0, 0, 0⟩]⟩] vss ∧ Chg (Foot (.slice (some ⟨g, off, none⟩) 1 cp) vss) wa (wa.setCell ⟨g, off, none⟩ (.int .i64 (-(1 + m)))) := hput
    have lo : ∀ b, Foot (.slice (some ⟨g, off, none⟩) 1 cp) vss b → w9a.heap.size ≤ b ∧ b < w10.heap.size := fun b ⟨u, hu, e⟩ => FL.out u hu b e
    have BX := Lib.hid (Chg.below BA.out hput.2 (fun b hb => (lo b hb).1))
    have RX := Lib.hid (R8.out.chg hput.2 (fun hb => by have := (lo _ hb).2; omega))
    have OX := Lib.hid (OwnPr.reads hput.1).2
    clear hput lo
    have hb3 : Below (wa.setCell ⟨g, off, none⟩ (.int .i64 (-(1 + m)))).heap.size (wa.setCell ⟨g, off, none⟩ (.int .i64 (-(1 + m)))) ((wa.setCell ⟨g, off, none⟩ (.int .i64 (-(1 + m)))).alloc (.cells #[.int .i64 1] 3)) := below_alloc (Below.refl _ _) _
    have hT : RowAt 3 wa.heap.size [.int .i64 1] ((wa.setCell ⟨g, off, none⟩ (.int .i64 (-(1 + m)))).alloc (.cells #[.int .i64 1] 3)) := by
      have := RowAt.new 3 [.int .i64 1] (wa.setCell ⟨g, off, none⟩ (.int .i64 (-(1 + m))))
      rwa [show (wa.setCell ⟨g, off, none⟩ (.int .i64 (-(1 + m)))).heap.size = wa.heap.size by simp] at this
    have BY := Lib.hid (below_trans BX.out hb3)
    have RY := Lib.hid (RX.out.below hb3)
    have OY := Lib.hid (OX.out.below hb3)
    have TY := Lib.hid hT
    clear hb3 hT
    have H := Lib.hid (calledP_m fullP 1 [⟨-(1 + m), [0, 0, 0, 0], [0, 0, 0, 0], [⟨0, 0, 0⟩]⟩] 1 0 [1] 1 (some ⟨w1.heap.size + 1, 0, none⟩) (some ⟨g, off, none⟩) (some ⟨wa.heap.size, 0, none⟩) 1 cp 1 ((wa.setCell ⟨g, off, none⟩ (.int .i64 (-(1 + m)))).alloc (.cells #[.int .i64 1] 3)) (HL.out.below BY.out) (RP.out.below BY.out) OY.out (intsL (xs := [1]) TY.out (by simp)) (pff0 (1 + m)) rfl rfl rfl (pfc0 hd1 hd2).1 (pfc0 hd1 hd2).2 len0)
    have p2 := (P.out.below BX.out).cell (k := 0) (by simp)
    have p3 := (P.out.below BY.out).cell (k := 0) (by simp)
    have x2 := RX.out.cell (k := 0) (by simp)
    have x3 := RY.out.cell (k := 0) (by simp)
    simp only [List.getElem_cons_zero] at p2 p3 x2 x3
    go_wp2_with fail
    (with_reducible refine H.out.mono ?_)
    rintro e w12 ⟨A9, d9, v9, rfl, -, hB⟩
    clear H p2 p3 x2 x3 r8 zr n0 n1 n2 n3 a0 a1 a2 cf zf z0 z1 z3 za0 za1 za2
    have hb5 : Below w12.heap.size w12 (w12.alloc (.cells #[.slice A9 0 d9] 44)) := below_alloc (Below.refl _ _) _
    have BZ := Lib.hid (below_trans BY.out (below_trans hB hb5))
    have RZ := Lib.hid (RY.out.below (below_trans hB hb5))
    have OZ := Lib.hid (OY.out.below (below_trans hB hb5))
    clear hB hb5
    have H := Lib.hid (mayP_n fullP 1 [⟨-(1 + m), [0, 0, 0, 0], [0, 0, 0, 0], [⟨0, 0, 0⟩]⟩] 1 (some ⟨w1.heap.size + 1, 0, none⟩) (some ⟨g, off, none⟩) 1 cp (w12.alloc (.cells #[.slice A9 0 d9] 44)) (HL.out.below BZ.out) (RP.out.below BZ.out) OZ.out rfl rfl (pfb0 hd1 hd2))
    have p2 := (P.out.below BZ.out).cell (k := 0) (by simp)
    have r2 := (R.out.below BZ.out).cell (k := 0) (by simp)
    have x2 := RZ.out.cell (k := 0) (by simp)
    simp only [List.getElem_cons_zero] at p2 r2 x2
    go_wp2_with (first | (go_at_call 15; (with_reducible refine (numL_any _ _).mono ?_); rintro e wn ⟨rfl, rfl⟩) | fail)
    (with_reducible refine H.out.mono ?_)
    rintro e w13 ⟨rfl, hB⟩
    clear p2 r2 x2 H
    have BV := Lib.hid (below_trans B.out (below_trans BZ.out hB))
    clear hB
    go_wp2_with (first | (go_at_call 15; (with_reducible refine (numL_any _ _).mono ?_); rintro e wn ⟨rfl, rfl⟩) | fail)
    go_ret
    exact ⟨rfl, BV.out⟩
  · skip
    have hput := OwnPr.put_calls O8.out (k := 0) (by decide) hk0 (f := pzS[0]) rfl (1073741824 + (1 + m))
    simp only [Nat.zero_mul, Nat.add_zero] at hput
    have hput : OwnPr (wa.setCell ⟨g, off, none⟩ (.int .i64 (1073741824 + (1 + m)))) w9a.heap.size (.slice (some ⟨g, off, none⟩) 1 cp) [⟨1073741824 + (1 + m), [0, 0, 0, 0], [0, 0, 0, 0], [⟨0, 0, 0⟩]⟩] vss ∧ Chg (Foot (.slice (some ⟨g, off, none⟩) 1 cp) vss) wa (wa.setCell ⟨g, off, none⟩ (.int .i64 (1073741824 + (1 + m)))) := hput
    have lo : ∀ b, Foot (.slice (some ⟨g, off, none⟩) 1 cp) vss b → w9a.heap.size ≤ b ∧ b < w10.heap.size := fun b ⟨u, hu, e⟩ => FL.out u hu b e
    have BX := Lib.hid (Chg.below BA.out hput.2 (fun b hb => (lo b hb).1))
    have RX := Lib.hid (R8.out.chg hput.2 (fun hb => by have := (lo _ hb).2; omega))
    have OX := Lib.hid (OwnPr.reads hput.1).2
    clear hput lo
    have hb3 : Below (wa.setCell ⟨g, off, none⟩ (.int .i64 (1073741824 + (1 + m)))).heap.size (wa.setCell ⟨g, off, none⟩ (.int .i64 (1073741824 + (1 + m)))) ((wa.setCell ⟨g, off, none⟩ (.int .i64 (1073741824 + (1 + m)))).alloc (.cells #[.int .i64 1] 3)) := below_alloc (Below.refl _ _) _
    have hT : RowAt 3 wa.heap.size [.int .i64 1] ((wa.setCell ⟨g, off, none⟩ (.int .i64 (1073741824 + (1 + m)))).alloc (.cells #[.int .i64 1] 3)) := by
      have := RowAt.new 3 [.int .i64 1] (wa.setCell ⟨g, off, none⟩ (.int .i64 (1073741824 + (1 + m))))
      rwa [show (wa.setCell ⟨g, off, none⟩ (.int .i64 (1073741824 + (1 + m)))).heap.size = wa.heap.size by simp] at this
    have BY := Lib.hid (below_trans BX.out hb3)
    have RY := Lib.hid (RX.out.below hb3)
    have OY := Lib.hid (OX.out.below hb3)
    have TY := Lib.hid hT
    clear hb3 hT
    have H := Lib.hid (calledP_m fullP 1 [⟨1073741824 + (1 + m), [0, 0, 0, 0], [0, 0, 0, 0], [⟨0, 0, 0⟩]⟩] 1 0 [1] 1 (some ⟨w1.heap.size + 1, 0, none⟩) (some ⟨g, off, none⟩) (some ⟨wa.heap.size, 0, none⟩) 1 cp 1 ((wa.setCell ⟨g, off, none⟩ (.int .i64 (1073741824 + (1 + m)))).alloc (.cells #[.int .i64 1] 3)) (HL.out.below BY.out) (RP.out.below BY.out) OY.out (intsL (xs := [1]) TY.out (by simp)) (pff1 (1 + m)) rfl rfl rfl (pfc1 hd1 hd2).1 (pfc1 hd1 hd2).2 len0)
    have p2 := (P.out.below BX.out).cell (k := 0) (by simp)
    have p3 := (P.out.below BY.out).cell (k := 0) (by simp)
    have x2 := RX.out.cell (k := 0) (by simp)
    have x3 := RY.out.cell (k := 0) (by simp)
    simp only [List.getElem_cons_zero] at p2 p3 x2 x3
    go_wp2_with fail
    (with_reducible refine H.out.mono ?_)
    rintro e w12 ⟨A9, d9, v9, rfl, -, hB⟩
    clear H p2 p3 x2 x3 r8 zr n0 n1 n2 n3 a0 a1 a2 cf zf z0 z1 z3 za0 za1 za2
    have hb5 : Below w12.heap.size w12 (w12.alloc (.cells #[.slice A9 0 d9] 44)) := below_alloc (Below.refl _ _) _
    have BZ := Lib.hid (below_trans BY.out (below_trans hB hb5))
    have RZ := Lib.hid (RY.out.below (below_trans hB hb5))
    have OZ := Lib.hid (OY.out.below (below_trans hB hb5))
    clear hB hb5
    have H := Lib.hid (mayP_n fullP 1 [⟨1073741824 + (1 + m), [0, 0, 0, 0], [0, 0, 0, 0], [⟨0, 0, 0⟩]⟩] 1 (some ⟨w1.heap.size + 1, 0, none⟩) (some ⟨g, off, none⟩) 1 cp (w12.alloc (.cells #[.slice A9 0 d9] 44)) (HL.out.below BZ.out) (RP.out.below BZ.out) OZ.out rfl rfl (pfb1 hd1 hd2))
    have p2 := (P.out.below BZ.out).cell (k := 0) (by simp)
    have r2 := (R.out.below BZ.out).cell (k := 0) (by simp)
    have x2 := RZ.out.cell (k := 0) (by simp)
    simp only [List.getElem_cons_zero] at p2 r2 x2
    go_wp2_with (first | (go_at_call 15; (with_reducible refine (numL_any _ _).mono ?_); rintro e wn ⟨rfl, rfl⟩) | fail)
    (with_reducible refine H.out.mono ?_)
    rintro e w13 ⟨rfl, hB⟩
    clear p2 r2 x2 H
    have BV := Lib.hid (below_trans B.out (below_trans BZ.out hB))
    clear hB
    go_wp2_with (first | (go_at_call 15; (with_reducible refine (numL_any _ _).mono ?_); rintro e wn ⟨rfl, rfl⟩) | fail)
    go_ret
    exact ⟨rfl, BV.out⟩
  · skip
    have hsw := OwnG.swap1 O8.out (k := 0) (by decide) hk0 (j := 0) (c := 1) (by rw [EV.out]; simp) (by decide) (.slice none 0 0) ⟨0, [], [0, 0, 0, 0], [⟨0, 0, 0⟩]⟩ (innI []) (Chg.refl _ _) (.inr ⟨rfl, rfl, none, rfl⟩) (fun b e => by cases e) (by simp [KPr, EV.out]; rfl) rfl
    simp only [Nat.zero_mul, Nat.add_zero] at hsw
    have hput : OwnPr (wa.setCell ⟨g, off + 1, none⟩ (.slice none 0 0)) w9a.heap.size (.slice (some ⟨g, off, none⟩) 1 cp) [⟨0, [], [0, 0, 0, 0], [⟨0, 0, 0⟩]⟩] _ ∧ Chg (Foot (.slice (some ⟨g, off, none⟩) 1 cp) vss) wa (wa.setCell ⟨g, off + 1, none⟩ (.slice none 0 0)) := ⟨hsw, Chg.put (S := Foot (.slice (some ⟨g, off, none⟩) 1 cp) vss) (Chg.refl _ wa) (a := ⟨g, off + 1, none⟩) ⟨_, List.mem_cons_self .., OB.out⟩ _⟩
    clear hsw
    have lo : ∀ b, Foot (.slice (some ⟨g, off, none⟩) 1 cp) vss b → w9a.heap.size ≤ b ∧ b < w10.heap.size := fun b ⟨u, hu, e⟩ => FL.out u hu b e
    have BX := Lib.hid (Chg.below BA.out hput.2 (fun b hb => (lo b hb).1))
    have RX := Lib.hid (R8.out.chg hput.2 (fun hb => by have := (lo _ hb).2; omega))
    have OX := Lib.hid (OwnPr.reads hput.1).2
    clear hput lo
    have hb3 : Below (wa.setCell ⟨g, off + 1, none⟩ (.slice none 0 0)).heap.size (wa.setCell ⟨g, off + 1, none⟩ (.slice none 0 0)) ((wa.setCell ⟨g, off + 1, none⟩ (.slice none 0 0)).alloc (.cells #[.int .i64 1] 3)) := below_alloc (Below.refl _ _) _
    have hT : RowAt 3 wa.heap.size [.int .i64 1] ((wa.setCell ⟨g, off + 1, none⟩ (.slice none 0 0)).alloc (.cells #[.int .i64 1] 3)) := by
      have := RowAt.new 3 [.int .i64 1] (wa.setCell ⟨g, off + 1, none⟩ (.slice none 0 0))
      rwa [show (wa.setCell ⟨g, off + 1, none⟩ (.slice none 0 0)).heap.size = wa.heap.size by simp] at this
    have BY := Lib.hid (below_trans BX.out hb3)
    have RY := Lib.hid (RX.out.below hb3)
    have OY := Lib.hid (OX.out.below hb3)
    have TY := Lib.hid hT
    clear hb3 hT
    have H := Lib.hid (calledP_m fullP 1 [⟨0, [], [0, 0, 0, 0], [⟨0, 0, 0⟩]⟩] 1 0 [1] 1 (some ⟨w1.heap.size + 1, 0, none⟩) (some ⟨g, off, none⟩) (some ⟨wa.heap.size, 0, none⟩) 1 cp 1 ((wa.setCell ⟨g, off + 1, none⟩ (.slice none 0 0)).alloc (.cells #[.int .i64 1] 3)) (HL.out.below BY.out) (RP.out.below BY.out) OY.out (intsL (xs := [1]) TY.out (by simp)) (pff2 (1 + m)) rfl rfl rfl (pfc2 hd1 hd2).1 (pfc2 hd1 hd2).2 len0)
    have p2 := (P.out.below BX.out).cell (k := 0) (by simp)
    have p3 := (P.out.below BY.out).cell (k := 0) (by simp)
    have x2 := RX.out.cell (k := 0) (by simp)
    have x3 := RY.out.cell (k := 0) (by simp)
    simp only [List.getElem_cons_zero] at p2 p3 x2 x3
    go_wp2_with fail
    (with_reducible refine H.out.mono ?_)
    rintro e w12 ⟨A9, d9, v9, rfl, -, hB⟩
    clear H p2 p3 x2 x3 r8 zr n0 n1 n2 n3 a0 a1 a2 cf zf z0 z1 z3 za0 za1 za2
    have hb5 : Below w12.heap.size w12 (w12.alloc (.cells #[.slice A9 0 d9] 44)) := below_alloc (Below.refl _ _) _
    have BZ := Lib.hid (below_trans BY.out (below_trans hB hb5))
    have RZ := Lib.hid (RY.out.below (below_trans hB hb5))
    have OZ := Lib.hid (OY.out.below (below_trans hB hb5))
    clear hB hb5
    have H := Lib.hid (mayP_n fullP 1 [⟨0, [], [0, 0, 0, 0], [⟨0, 0, 0⟩]⟩] 1 (some ⟨w1.heap.size + 1, 0, none⟩) (some ⟨g, off, none⟩) 1 cp (w12.alloc (.cells #[.slice A9 0 d9] 44)) (HL.out.below BZ.out) (RP.out.below BZ.out) OZ.out rfl rfl (pfb2 hd1 hd2))
    have p2 := (P.out.below BZ.out).cell (k := 0) (by simp)
    have r2 := (R.out.below BZ.out).cell (k := 0) (by simp)
    have x2 := RZ.out.cell (k := 0) (by simp)
    simp only [List.getElem_cons_zero] at p2 r2 x2
    go_wp2_with (first | (go_at_call 15; (with_reducible refine (numL_any _ _).mono ?_); rintro e wn ⟨rfl, rfl⟩) | fail)
    (with_reducible refine H.out.mono ?_)
    rintro e w13 ⟨rfl, hB⟩
    clear p2 r2 x2 H
    have BV := Lib.hid (below_trans B.out (below_trans BZ.out hB))
    clear hB
    go_wp2_with (first | (go_at_call 15; (with_reducible refine (numL_any _ _).mono ?_); rintro e wn ⟨rfl, rfl⟩) | fail)
    go_ret
    exact ⟨rfl, BV.out⟩
  · skip
    have hput := OwnPr.put_fall O8.out (k := 0) (by decide) hk0 EV.out (f := pzS[0]) rfl (j := 2) (by decide) (-(1 + m))
    have hput : OwnPr (wa.setCell ⟨gf, of + 2, none⟩ (.int .i64 (-(1 + m)))) w9a.heap.size (.slice (some ⟨g, off, none⟩) 1 cp) [⟨0, [0, 0, 0, 0], [0, 0, -(1 + m), 0], [⟨0, 0, 0⟩]⟩] vss ∧ Chg (Foot (.slice (some ⟨g, off, none⟩) 1 cp) vss) wa (wa.setCell ⟨gf, of + 2, none⟩ (.int .i64 (-(1 + m)))) := hput
    have lo : ∀ b, Foot (.slice (some ⟨g, off, none⟩) 1 cp) vss b → w9a.heap.size ≤ b ∧ b < w10.heap.size := fun b ⟨u, hu, e⟩ => FL.out u hu b e
    have BX := Lib.hid (Chg.below BA.out hput.2 (fun b hb => (lo b hb).1))
    have RX := Lib.hid (R8.out.chg hput.2 (fun hb => by have := (lo _ hb).2; omega))
    have OX := Lib.hid (OwnPr.reads hput.1).2
    clear hput lo
    have hb3 : Below (wa.setCell ⟨gf, of + 2, none⟩ (.int .i64 (-(1 + m)))).heap.size (wa.setCell ⟨gf, of + 2, none⟩ (.int .i64 (-(1 + m)))) ((wa.setCell ⟨gf, of + 2, none⟩ (.int .i64 (-(1 + m)))).alloc (.cells #[.int .i64 1] 3)) := below_alloc (Below.refl _ _) _
    have hT : RowAt 3 wa.heap.size [.int .i64 1] ((wa.setCell ⟨gf, of + 2, none⟩ (.int .i64 (-(1 + m)))).alloc (.cells #[.int .i64 1] 3)) := by
      have := RowAt.new 3 [.int .i64 1] (wa.setCell ⟨gf, of + 2, none⟩ (.int .i64 (-(1 + m))))
      rwa [show (wa.setCell ⟨gf, of + 2, none⟩ (.int .i64 (-(1 + m)))).heap.size = wa.heap.size by simp] at this
    have BY := Lib.hid (below_trans BX.out hb3)
    have RY := Lib.hid (RX.out.below hb3)
    have OY := Lib.hid (OX.out.below hb3)
    have TY := Lib.hid hT
    clear hb3 hT
    have H := Lib.hid (calledP_m fullP 1 [⟨0, [0, 0, 0, 0], [0, 0, -(1 + m), 0], [⟨0, 0, 0⟩]⟩] 1 0 [1] 1 (some ⟨w1.heap.size + 1, 0, none⟩) (some ⟨g, off, none⟩) (some ⟨wa.heap.size, 0, none⟩) 1 cp 1 ((wa.setCell ⟨gf, of + 2, none⟩ (.int .i64 (-(1 + m)))).alloc (.cells #[.int .i64 1] 3)) (HL.out.below BY.out) (RP.out.below BY.out) OY.out (intsL (xs := [1]) TY.out (by simp)) (pff3 (1 + m)) rfl rfl rfl (pfc3 hd1 hd2).1 (pfc3 hd1 hd2).2 len0)
    have p2 := (P.out.below BX.out).cell (k := 0) (by simp)
    have p3 := (P.out.below BY.out).cell (k := 0) (by simp)
    have x2 := RX.out.cell (k := 0) (by simp)
    have x3 := RY.out.cell (k := 0) (by simp)
    simp only [List.getElem_cons_zero] at p2 p3 x2 x3
    go_wp2_with fail
    (with_reducible refine H.out.mono ?_)
    rintro e w12 ⟨A9, d9, v9, rfl, -, hB⟩
    clear H p2 p3 x2 x3 r8 zr n0 n1 n2 n3 a0 a1 a2 cf zf z0 z1 z3 za0 za1 za2
    have hb5 : Below w12.heap.size w12 (w12.alloc (.cells #[.slice A9 0 d9] 44)) := below_alloc (Below.refl _ _) _
    have BZ := Lib.hid (below_trans BY.out (below_trans hB hb5))
    have RZ := Lib.hid (RY.out.below (below_trans hB hb5))
    have OZ := Lib.hid (OY.out.below (below_trans hB hb5))
    clear hB hb5
    have H := Lib.hid (mayP_n fullP 1 [⟨0, [0, 0, 0, 0], [0, 0, -(1 + m), 0], [⟨0, 0, 0⟩]⟩] 1 (some ⟨w1.heap.size + 1, 0, none⟩) (some ⟨g, off, none⟩) 1 cp (w12.alloc (.cells #[.slice A9 0 d9] 44)) (HL.out.below BZ.out) (RP.out.below BZ.out) OZ.out rfl rfl (pfb3 hd1 hd2))
    have p2 := (P.out.below BZ.out).cell (k := 0) (by simp)
    have r2 := (R.out.below BZ.out).cell (k := 0) (by simp)
    have x2 := RZ.out.cell (k := 0) (by simp)
    simp only [List.getElem_cons_zero] at p2 r2 x2
    go_wp2_with (first | (go_at_call 15; (with_reducible refine (numL_any _ _).mono ?_); rintro e wn ⟨rfl, rfl⟩) | fail)
    (with_reducible refine H.out.mono ?_)
    rintro e w13 ⟨rfl, hB⟩
    clear p2 r2 x2 H
    have BV := Lib.hid (below_trans B.out (below_trans BZ.out hB))
    clear hB
    go_wp2_with (first | (go_at_call 15; (with_reducible refine (numL_any _ _).mono ?_); rintro e wn ⟨rfl, rfl⟩) | fail)
    go_ret
    exact ⟨rfl, BV.out⟩
  · skip
    have hsw := OwnG.swap1 O8.out (k := 0) (by decide) hk0 (j := 2) (c := 3) (by rw [EV.out]; simp) (by decide) (.slice none 0 0) ⟨0, [0, 0, 0, 0], [0, 0, 0, 0], []⟩ (innA []) (Chg.refl _ _) (.inr ⟨rfl, rfl, none, rfl⟩) (fun b e => by cases e) (by simp [KPr, EV.out]; rfl) rfl
    simp only [Nat.zero_mul, Nat.add_zero] at hsw
    have hput : OwnPr (wa.setCell ⟨g, off + 3, none⟩ (.slice none 0 0)) w9a.heap.size (.slice (some ⟨g, off, none⟩) 1 cp) [⟨0, [0, 0, 0, 0], [0, 0, 0, 0], []⟩] _ ∧ Chg (Foot (.slice (some ⟨g, off, none⟩) 1 cp) vss) wa (wa.setCell ⟨g, off + 3, none⟩ (.slice none 0 0)) := ⟨hsw, Chg.put (S := Foot (.slice (some ⟨g, off, none⟩) 1 cp) vss) (Chg.refl _ wa) (a := ⟨g, off + 3, none⟩) ⟨_, List.mem_cons_self .., OB.out⟩ _⟩
    clear hsw
    have lo : ∀ b, Foot (.slice (some ⟨g, off, none⟩) 1 cp) vss b → w9a.heap.size ≤ b ∧ b < w10.heap.size := fun b ⟨u, hu, e⟩ => FL.out u hu b e
    have BX := Lib.hid (Chg.below BA.out hput.2 (fun b hb => (lo b hb).1))
    have RX := Lib.hid (R8.out.chg hput.2 (fun hb => by have := (lo _ hb).2; omega))
    have OX := Lib.hid (OwnPr.reads hput.1).2
    clear hput lo
    have hb3 : Below (wa.setCell ⟨g, off + 3, none⟩ (.slice none 0 0)).heap.size (wa.setCell ⟨g, off + 3, none⟩ (.slice none 0 0)) ((wa.setCell ⟨g, off + 3, none⟩ (.slice none 0 0)).alloc (.cells #[.int .i64 1] 3)) := below_alloc (Below.refl _ _) _
    have hT : RowAt 3 wa.heap.size [.int .i64 1] ((wa.setCell ⟨g, off + 3, none⟩ (.slice none 0 0)).alloc (.cells #[.int .i64 1] 3)) := by
      have := RowAt.new 3 [.int .i64 1] (wa.setCell ⟨g, off + 3, none⟩ (.slice none 0 0))
      rwa [show (wa.setCell ⟨g, off + 3, none⟩ (.slice none 0 0)).heap.size = wa.heap.size by simp] at this
    have BY := Lib.hid (below_trans BX.out hb3)
    have RY := Lib.hid (RX.out.below hb3)
    have OY := Lib.hid (OX.out.below hb3)
    have TY := Lib.hid hT
    clear hb3 hT
    have H := Lib.hid (calledP_m fullP 1 [⟨0, [0, 0, 0, 0], [0, 0, 0, 0], []⟩] 1 0 [1] 1 (some ⟨w1.heap.size + 1, 0, none⟩) (some ⟨g, off, none⟩) (some ⟨wa.heap.size, 0, none⟩) 1 cp 1 ((wa.setCell ⟨g, off + 3, none⟩ (.slice none 0 0)).alloc (.cells #[.int .i64 1] 3)) (HL.out.below BY.out) (RP.out.below BY.out) OY.out (intsL (xs := [1]) TY.out (by simp)) (pff4 (1 + m)) rfl rfl rfl (pfc4 hd1 hd2).1 (pfc4 hd1 hd2).2 len0)
    have p2 := (P.out.below BX.out).cell (k := 0) (by simp)
    have p3 := (P.out.below BY.out).cell (k := 0) (by simp)
    have x2 := RX.out.cell (k := 0) (by simp)
    have x3 := RY.out.cell (k := 0) (by simp)
    simp only [List.getElem_cons_zero] at p2 p3 x2 x3
    go_wp2_with fail
    (with_reducible refine H.out.mono ?_)
    rintro e w12 ⟨A9, d9, v9, rfl, -, hB⟩
    clear H p2 p3 x2 x3 r8 zr n0 n1 n2 n3 a0 a1 a2 cf zf z0 z1 z3 za0 za1 za2
    have hb5 : Below w12.heap.size w12 (w12.alloc (.cells #[.slice A9 0 d9] 44)) := below_alloc (Below.refl _ _) _
    have BZ := Lib.hid (below_trans BY.out (below_trans hB hb5))
    have RZ := Lib.hid (RY.out.below (below_trans hB hb5))
    have OZ := Lib.hid (OY.out.below (below_trans hB hb5))
    clear hB hb5
    have H := Lib.hid (mayP_n fullP 1 [⟨0, [0, 0, 0, 0], [0, 0, 0, 0], []⟩] 1 (some ⟨w1.heap.size + 1, 0, none⟩) (some ⟨g, off, none⟩) 1 cp (w12.alloc (.cells #[.slice A9 0 d9] 44)) (HL.out.below BZ.out) (RP.out.below BZ.out) OZ.out rfl rfl (pfb4 hd1 hd2))
    have p2 := (P.out.below BZ.out).cell (k := 0) (by simp)
    have r2 := (R.out.below BZ.out).cell (k := 0) (by simp)
    have x2 := RZ.out.cell (k := 0) (by simp)
    simp only [List.getElem_cons_zero] at p2 r2 x2
    go_wp2_with (first | (go_at_call 15; (with_reducible refine (numL_any _ _).mono ?_); rintro e wn ⟨rfl, rfl⟩) | fail)
    (with_reducible refine H.out.mono ?_)
    rintro e w13 ⟨rfl, hB⟩
    clear p2 r2 x2 H
    have BV := Lib.hid (below_trans B.out (below_trans BZ.out hB))
    clear hB
    go_wp2_with (first | (go_at_call 15; (with_reducible refine (numL_any _ _).mono ?_); rintro e wn ⟨rfl, rfl⟩) | fail)
    go_ret
    exact ⟨rfl, BV.out⟩
  · skip
    have hput := OwnPr.put_arg O8.out (k := 0) (by decide) hk0 EV.out (f := pzS[0]) rfl (j := 0) (by decide) (c := 0) (by decide) (.int .i64 (2147483647 + (1 + m))) ⟨2147483647 + (1 + m), 0, 0⟩ rfl
    simp only [Nat.zero_mul, Nat.add_zero] at hput
    have hput : OwnPr (wa.setCell ⟨ga, oa, none⟩ (.int .i64 (2147483647 + (1 + m)))) w9a.heap.size (.slice (some ⟨g, off, none⟩) 1 cp) [⟨0, [0, 0, 0, 0], [0, 0, 0, 0], [⟨2147483647 + (1 + m), 0, 0⟩]⟩] vss ∧ Chg (Foot (.slice (some ⟨g, off, none⟩) 1 cp) vss) wa (wa.setCell ⟨ga, oa, none⟩ (.int .i64 (2147483647 + (1 + m)))) := hput
    have lo : ∀ b, Foot (.slice (some ⟨g, off, none⟩) 1 cp) vss b → w9a.heap.size ≤ b ∧ b < w10.heap.size := fun b ⟨u, hu, e⟩ => FL.out u hu b e
    have BX := Lib.hid (Chg.below BA.out hput.2 (fun b hb => (lo b hb).1))
    have RX := Lib.hid (R8.out.chg hput.2 (fun hb => by have := (lo _ hb).2; omega))
    have OX := Lib.hid (OwnPr.reads hput.1).2
    clear hput lo
    have hb3 : Below (wa.setCell ⟨ga, oa, none⟩ (.int .i64 (2147483647 + (1 + m)))).heap.size (wa.setCell ⟨ga, oa, none⟩ (.int .i64 (2147483647 + (1 + m)))) ((wa.setCell ⟨ga, oa, none⟩ (.int .i64 (2147483647 + (1 + m)))).alloc (.cells #[.int .i64 1] 3)) := below_alloc (Below.refl _ _) _
    have hT : RowAt 3 wa.heap.size [.int .i64 1] ((wa.setCell ⟨ga, oa, none⟩ (.int .i64 (2147483647 + (1 + m)))).alloc (.cells #[.int .i64 1] 3)) := by
      have := RowAt.new 3 [.int .i64 1] (wa.setCell ⟨ga, oa, none⟩ (.int .i64 (2147483647 + (1 + m))))
      rwa [show (wa.setCell ⟨ga, oa, none⟩ (.int .i64 (2147483647 + (1 + m)))).heap.size = wa.heap.size by simp] at this
    have BY := Lib.hid (below_trans BX.out hb3)
    have RY := Lib.hid (RX.out.below hb3)
    have OY := Lib.hid (OX.out.below hb3)
    have TY := Lib.hid hT
    clear hb3 hT
    have H := Lib.hid (calledP_m fullP 1 [⟨0, [0, 0, 0, 0], [0, 0, 0, 0], [⟨2147483647 + (1 + m), 0, 0⟩]⟩] 1 0 [1] 1 (some ⟨w1.heap.size + 1, 0, none⟩) (some ⟨g, off, none⟩) (some ⟨wa.heap.size, 0, none⟩) 1 cp 1 ((wa.setCell ⟨ga, oa, none⟩ (.int .i64 (2147483647 + (1 + m)))).alloc (.cells #[.int .i64 1] 3)) (HL.out.below BY.out) (RP.out.below BY.out) OY.out (intsL (xs := [1]) TY.out (by simp)) (pff5 (1 + m)) rfl rfl rfl (pfc5 hd1 hd2).1 (pfc5 hd1 hd2).2 len0)
    have p2 := (P.out.below BX.out).cell (k := 0) (by simp)
    have p3 := (P.out.below BY.out).cell (k := 0) (by simp)
    have x2 := RX.out.cell (k := 0) (by simp)
    have x3 := RY.out.cell (k := 0) (by simp)
    simp only [List.getElem_cons_zero] at p2 p3 x2 x3
    go_wp2_with fail
    (with_reducible refine H.out.mono ?_)
    rintro e w12 ⟨A9, d9, v9, rfl, -, hB⟩
    clear H p2 p3 x2 x3 r8 zr n0 n1 n2 n3 a0 a1 a2 cf zf z0 z1 z3 za0 za1 za2
    have hb5 : Below w12.heap.size w12 (w12.alloc (.cells #[.slice A9 0 d9] 44)) := below_alloc (Below.refl _ _) _
    have BZ := Lib.hid (below_trans BY.out (below_trans hB hb5))
    have RZ := Lib.hid (RY.out.below (below_trans hB hb5))
    have OZ := Lib.hid (OY.out.below (below_trans hB hb5))
    clear hB hb5
    have H := Lib.hid (mayP_n fullP 1 [⟨0, [0, 0, 0, 0], [0, 0, 0, 0], [⟨2147483647 + (1 + m), 0, 0⟩]⟩] 1 (some ⟨w1.heap.size + 1, 0, none⟩) (some ⟨g, off, none⟩) 1 cp (w12.alloc (.cells #[.slice A9 0 d9] 44)) (HL.out.below BZ.out) (RP.out.below BZ.out) OZ.out rfl rfl (pfb5 hd1 hd2))
    have p2 := (P.out.below BZ.out).cell (k := 0) (by simp)
    have r2 := (R.out.below BZ.out).cell (k := 0) (by simp)
    have x2 := RZ.out.cell (k := 0) (by simp)
    simp only [List.getElem_cons_zero] at p2 r2 x2
    go_wp2_with (first | (go_at_call 15; (with_reducible refine (numL_any _ _).mono ?_); rintro e wn ⟨rfl, rfl⟩) | fail)
    (with_reducible refine H.out.mono ?_)
    rintro e w13 ⟨rfl, hB⟩
    clear p2 r2 x2 H
    have BV := Lib.hid (below_trans B.out (below_trans BZ.out hB))
    clear hB
    go_wp2_with (first | (go_at_call 15; (with_reducible refine (numL_any _ _).mono ?_); rintro e wn ⟨rfl, rfl⟩) | fail)
    go_ret
    exact ⟨rfl, BV.out⟩
  · skip
    have hput := OwnPr.put_arg O8.out (k := 0) (by decide) hk0 EV.out (f := pzS[0]) rfl (j := 0) (by decide) (c := 1) (by decide) (.int .i64 (1073741824 + (1 + m))) ⟨0, 1073741824 + (1 + m), 0⟩ rfl
    simp only [Nat.zero_mul, Nat.add_zero] at hput
    have hput : OwnPr (wa.setCell ⟨ga, oa + 1, none⟩ (.int .i64 (1073741824 + (1 + m)))) w9a.heap.size (.slice (some ⟨g, off, none⟩) 1 cp) [⟨0, [0, 0, 0, 0], [0, 0, 0, 0], [⟨0, 1073741824 + (1 + m), 0⟩]⟩] vss ∧ Chg (Foot (.slice (some ⟨g, off, none⟩) 1 cp) vss) wa (wa.setCell ⟨ga, oa + 1, none⟩ (.int .i64 (1073741824 + (1 + m)))) := hput
    have lo : ∀ b, Foot (.slice (some ⟨g, off, none⟩) 1 cp) vss b → w9a.heap.size ≤ b ∧ b < w10.heap.size := fun b ⟨u, hu, e⟩ => FL.out u hu b e
    have BX := Lib.hid (Chg.below BA.out hput.2 (fun b hb => (lo b hb).1))
    have RX := Lib.hid (R8.out.chg hput.2 (fun hb => by have := (lo _ hb).2; omega))
    have OX := Lib.hid (OwnPr.reads hput.1).2
    clear hput lo
    have hb3 : Below (wa.setCell ⟨ga, oa + 1, none⟩ (.int .i64 (1073741824 + (1 + m)))).heap.size (wa.setCell ⟨ga, oa + 1, none⟩ (.int .i64 (1073741824 + (1 + m)))) ((wa.setCell ⟨ga, oa + 1, none⟩ (.int .i64 (1073741824 + (1 + m)))).alloc (.cells #[.int .i64 1] 3)) := below_alloc (Below.refl _ _) _
    have hT : RowAt 3 wa.heap.size [.int .i64 1] ((wa.setCell ⟨ga, oa + 1, none⟩ (.int .i64 (1073741824 + (1 + m)))).alloc (.cells #[.int .i64 1] 3)) := by
      have := RowAt.new 3 [.int .i64 1] (wa.setCell ⟨ga, oa + 1, none⟩ (.int .i64 (1073741824 + (1 + m))))
      rwa [show (wa.setCell ⟨ga, oa + 1, none⟩ (.int .i64 (1073741824 + (1 + m)))).heap.size = wa.heap.size by simp] at this
    have BY := Lib.hid (below_trans BX.out hb3)
    have RY := Lib.hid (RX.out.below hb3)
    have OY := Lib.hid (OX.out.below hb3)
    have TY := Lib.hid hT
    clear hb3 hT
    have H := Lib.hid (calledP_m fullP 1 [⟨0, [0, 0, 0, 0], [0, 0, 0, 0], [⟨0, 1073741824 + (1 + m), 0⟩]⟩] 1 0 [1] 1 (some ⟨w1.heap.size + 1, 0, none⟩) (some ⟨g, off, none⟩) (some ⟨wa.heap.size, 0, none⟩) 1 cp 1 ((wa.setCell ⟨ga, oa + 1, none⟩ (.int .i64 (1073741824 + (1 + m)))).alloc (.cells #[.int .i64 1] 3)) (HL.out.below BY.out) (RP.out.below BY.out) OY.out (intsL (xs := [1]) TY.out (by simp)) (pff6 (1 + m)) rfl rfl rfl (pfc6 hd1 hd2).1 (pfc6 hd1 hd2).2 len0)
    have p2 := (P.out.below BX.out).cell (k := 0) (by simp)
    have p3 := (P.out.below BY.out).cell (k := 0) (by simp)
    have x2 := RX.out.cell (k := 0) (by simp)
    have x3 := RY.out.cell (k := 0) (by simp)
    simp only [List.getElem_cons_zero] at p2 p3 x2 x3
    go_wp2_with fail
    (with_reducible refine H.out.mono ?_)
    rintro e w12 ⟨A9, d9, v9, rfl, -, hB⟩
    clear H p2 p3 x2 x3 r8 zr n0 n1 n2 n3 a0 a1 a2 cf zf z0 z1 z3 za0 za1 za2
    have hb5 : Below w12.heap.size w12 (w12.alloc (.cells #[.slice A9 0 d9] 44)) := below_alloc (Below.refl _ _) _
    have BZ := Lib.hid (below_trans BY.out (below_trans hB hb5))
    have RZ := Lib.hid (RY.out.below (below_trans hB hb5))
    have OZ := Lib.hid (OY.out.below (below_trans hB hb5))
    clear hB hb5
    have H := Lib.hid (mayP_n fullP 1 [⟨0, [0, 0, 0, 0], [0, 0, 0, 0], [⟨0, 1073741824 + (1 + m), 0⟩]⟩] 1 (some ⟨w1.heap.size + 1, 0, none⟩) (some ⟨g, off, none⟩) 1 cp (w12.alloc (.cells #[.slice A9 0 d9] 44)) (HL.out.below BZ.out) (RP.out.below BZ.out) OZ.out rfl rfl (pfb6 hd1 hd2))
    have p2 := (P.out.below BZ.out).cell (k := 0) (by simp)
    have r2 := (R.out.below BZ.out).cell (k := 0) (by simp)
    have x2 := RZ.out.cell (k := 0) (by simp)
    simp only [List.getElem_cons_zero] at p2 r2 x2
    go_wp2_with (first | (go_at_call 15; (with_reducible refine (numL_any _ _).mono ?_); rintro e wn ⟨rfl, rfl⟩) | fail)
    (with_reducible refine H.out.mono ?_)
    rintro e w13 ⟨rfl, hB⟩
    clear p2 r2 x2 H
    have BV := Lib.hid (below_trans B.out (below_trans BZ.out hB))
    clear hB
    go_wp2_with (first | (go_at_call 15; (with_reducible refine (numL_any _ _).mono ?_); rintro e wn ⟨rfl, rfl⟩) | fail)
    go_ret
    exact ⟨rfl, BV.out⟩
  · skip
    have hput := OwnPr.put_arg O8.out (k := 0) (by decide) hk0 EV.out (f := pzS[0]) rfl (j := 0) (by decide) (c := 2) (by decide) (.int .i64 (-(1 + m))) ⟨0, 0, -(1 + m)⟩ rfl
    simp only [Nat.zero_mul, Nat.add_zero] at hput
    have hput : OwnPr (wa.setCell ⟨ga, oa + 2, none⟩ (.int .i64 (-(1 + m)))) w9a.heap.size (.slice (some ⟨g, off, none⟩) 1 cp) [⟨0, [0, 0, 0, 0], [0, 0, 0, 0], [⟨0, 0, -(1 + m)⟩]⟩] vss ∧ Chg (Foot (.slice (some ⟨g, off, none⟩) 1 cp) vss) wa (wa.setCell ⟨ga, oa + 2, none⟩ (.int .i64 (-(1 + m)))) := hput
    have lo : ∀ b, Foot (.slice (some ⟨g, off, none⟩) 1 cp) vss b → w9a.heap.size ≤ b ∧ b < w10.heap.size := fun b ⟨u, hu, e⟩ => FL.out u hu b e
    have BX := Lib.hid (Chg.below BA.out hput.2 (fun b hb => (lo b hb).1))
    have RX := Lib.hid (R8.out.chg hput.2 (fun hb => by have := (lo _ hb).2; omega))
    have OX := Lib.hid (OwnPr.reads hput.1).2
    clear hput lo
    have hb3 : Below (wa.setCell ⟨ga, oa + 2, none⟩ (.int .i64 (-(1 + m)))).heap.size (wa.setCell ⟨ga, oa + 2, none⟩ (.int .i64 (-(1 + m)))) ((wa.setCell ⟨ga, oa + 2, none⟩ (.int .i64 (-(1 + m)))).alloc (.cells #[.int .i64 1] 3)) := below_alloc (Below.refl _ _) _
    have hT : RowAt 3 wa.heap.size [.int .i64 1] ((wa.setCell ⟨ga, oa + 2, none⟩ (.int .i64 (-(1 + m)))).alloc (.cells #[.int .i64 1] 3)) := by
      have := RowAt.new 3 [.int .i64 1] (wa.setCell ⟨ga, oa + 2, none⟩ (.int .i64 (-(1 + m))))
      rwa [show (wa.setCell ⟨ga, oa + 2, none⟩ (.int .i64 (-(1 + m)))).heap.size = wa.heap.size by simp] at this
    have BY := Lib.hid (below_trans BX.out hb3)
    have RY := Lib.hid (RX.out.below hb3)
    have OY := Lib.hid (OX.out.below hb3)
    have TY := Lib.hid hT
    clear hb3 hT
    have H := Lib.hid (calledP_m fullP 1 [⟨0, [0, 0, 0, 0], [0, 0, 0, 0], [⟨0, 0, -(1 + m)⟩]⟩] 1 0 [1] 1 (some ⟨w1.heap.size + 1, 0, none⟩) (some ⟨g, off, none⟩) (some ⟨wa.heap.size, 0, none⟩) 1 cp 1 ((wa.setCell ⟨ga, oa + 2, none⟩ (.int .i64 (-(1 + m)))).alloc (.cells #[.int .i64 1] 3)) (HL.out.below BY.out) (RP.out.below BY.out) OY.out (intsL (xs := [1]) TY.out (by simp)) (pff7 (1 + m)) rfl rfl rfl (pfc7 hd1 hd2).1 (pfc7 hd1 hd2).2 len0)
    have p2 := (P.out.below BX.out).cell (k := 0) (by simp)
    have p3 := (P.out.below BY.out).cell (k := 0) (by simp)
    have x2 := RX.out.cell (k := 0) (by simp)
    have x3 := RY.out.cell (k := 0) (by simp)
    simp only [List.getElem_cons_zero] at p2 p3 x2 x3
    go_wp2_with fail
    (with_reducible refine H.out.mono ?_)
    rintro e w12 ⟨A9, d9, v9, rfl, -, hB⟩
    clear H p2 p3 x2 x3 r8 zr n0 n1 n2 n3 a0 a1 a2 cf zf z0 z1 z3 za0 za1 za2
    have hb5 : Below w12.heap.size w12 (w12.alloc (.cells #[.slice A9 0 d9] 44)) := below_alloc (Below.refl _ _) _
    have BZ := Lib.hid (below_trans BY.out (below_trans hB hb5))
    have RZ := Lib.hid (RY.out.below (below_trans hB hb5))
    have OZ := Lib.hid (OY.out.below (below_trans hB hb5))
    clear hB hb5
    have H := Lib.hid (mayP_n fullP 1 [⟨0, [0, 0, 0, 0], [0, 0, 0, 0], [⟨0, 0, -(1 + m)⟩]⟩] 1 (some ⟨w1.heap.size + 1, 0, none⟩) (some ⟨g, off, none⟩) 1 cp (w12.alloc (.cells #[.slice A9 0 d9] 44)) (HL.out.below BZ.out) (RP.out.below BZ.out) OZ.out rfl rfl (pfb7 hd1 hd2))
    have p2 := (P.out.below BZ.out).cell (k := 0) (by simp)
    have r2 := (R.out.below BZ.out).cell (k := 0) (by simp)
    have x2 := RZ.out.cell (k := 0) (by simp)
    simp only [List.getElem_cons_zero] at p2 r2 x2
    go_wp2_with (first | (go_at_call 15; (with_reducible refine (numL_any _ _).mono ?_); rintro e wn ⟨rfl, rfl⟩) | fail)
    (with_reducible refine H.out.mono ?_)
    rintro e w13 ⟨rfl, hB⟩
    clear p2 r2 x2 H
    have BV := Lib.hid (below_trans B.out (below_trans BZ.out hB))
    clear hB
    go_wp2_with (first | (go_at_call 15; (with_reducible refine (numL_any _ _).mono ?_); rintro e wn ⟨rfl, rfl⟩) | fail)
    go_ret
    exact ⟨rfl, BV.out⟩
  · skip
    have BX := Lib.hid (Below.setCell BA.out (p := ⟨w10.heap.size, 0, none⟩) LT.out (.slice none 0 0))
    have hrx := R8.out.put 0 (.slice none 0 0)
    simp only [List.set_cons_zero] at hrx
    have RX := Lib.hid hrx
    have OX := Lib.hid (readsP_nil (wa.setCell ⟨w10.heap.size, 0, none⟩ (.slice none 0 0)) none)
    clear hrx
    have hb3 : Below (wa.setCell ⟨w10.heap.size, 0, none⟩ (.slice none 0 0)).heap.size (wa.setCell ⟨w10.heap.size, 0, none⟩ (.slice none 0 0)) ((wa.setCell ⟨w10.heap.size, 0, none⟩ (.slice none 0 0)).alloc (.cells #[.int .i64 1] 3)) := below_alloc (Below.refl _ _) _
    have hT : RowAt 3 wa.heap.size [.int .i64 1] ((wa.setCell ⟨w10.heap.size, 0, none⟩ (.slice none 0 0)).alloc (.cells #[.int .i64 1] 3)) := by
      have := RowAt.new 3 [.int .i64 1] (wa.setCell ⟨w10.heap.size, 0, none⟩ (.slice none 0 0))
      rwa [show (wa.setCell ⟨w10.heap.size, 0, none⟩ (.slice none 0 0)).heap.size = wa.heap.size by simp] at this
    have BY := Lib.hid (below_trans BX.out hb3)
    have RY := Lib.hid (RX.out.below hb3)
    have OY := Lib.hid (OX.out.below hb3)
    have TY := Lib.hid hT
    clear hb3 hT
    have H := Lib.hid (calledP_m fullP 1 [] 0 0 [1] 1 (some ⟨w1.heap.size + 1, 0, none⟩) none (some ⟨wa.heap.size, 0, none⟩) 1 0 1 ((wa.setCell ⟨w10.heap.size, 0, none⟩ (.slice none 0 0)).alloc (.cells #[.int .i64 1] 3)) (HL.out.below BY.out) (RP.out.below BY.out) OY.out (intsL (xs := [1]) TY.out (by simp)) (pff8 (1 + m)) rfl rfl rfl (pfc8 hd1 hd2).1 (pfc8 hd1 hd2).2 len0)
    have p2 := (P.out.below BX.out).cell (k := 0) (by simp)
    have p3 := (P.out.below BY.out).cell (k := 0) (by simp)
    have x2 := RX.out.cell (k := 0) (by simp)
    have x3 := RY.out.cell (k := 0) (by simp)
    simp only [List.getElem_cons_zero] at p2 p3 x2 x3
    go_wp2_with fail
    (with_reducible refine H.out.mono ?_)
    rintro e w12 ⟨A9, d9, v9, rfl, -, hB⟩
    clear H p2 p3 x2 x3 r8 zr n0 n1 n2 n3 a0 a1 a2 cf zf z0 z1 z3 za0 za1 za2
    have hb5 : Below w12.heap.size w12 (w12.alloc (.cells #[.slice A9 0 d9] 44)) := below_alloc (Below.refl _ _) _
    have BZ := Lib.hid (below_trans BY.out (below_trans hB hb5))
    have RZ := Lib.hid (RY.out.below (below_trans hB hb5))
    have OZ := Lib.hid (OY.out.below (below_trans hB hb5))
    clear hB hb5
    have H := Lib.hid (mayP_n fullP 1 [] 0 (some ⟨w1.heap.size + 1, 0, none⟩) none 1 0 (w12.alloc (.cells #[.slice A9 0 d9] 44)) (HL.out.below BZ.out) (RP.out.below BZ.out) OZ.out rfl rfl (pfb8 hd1 hd2))
    have p2 := (P.out.below BZ.out).cell (k := 0) (by simp)
    have r2 := (R.out.below BZ.out).cell (k := 0) (by simp)
    have x2 := RZ.out.cell (k := 0) (by simp)
    simp only [List.getElem_cons_zero] at p2 r2 x2
    go_wp2_with (first | (go_at_call 15; (with_reducible refine (numL_any _ _).mono ?_); rintro e wn ⟨rfl, rfl⟩) | fail)
    (with_reducible refine H.out.mono ?_)
    rintro e w13 ⟨rfl, hB⟩
    clear p2 r2 x2 H
    have BV := Lib.hid (below_trans B.out (below_trans BZ.out hB))
    clear hB
    go_wp2_with (first | (go_at_call 15; (with_reducible refine (numL_any _ _).mono ?_); rintro e wn ⟨rfl, rfl⟩) | fail)
    go_ret
    exact ⟨rfl, BV.out⟩
end Go.Proofs.YtpfgklkdldkajaaDoor
