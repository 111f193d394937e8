/- 'two' of the statements on profiles. No condition. 'awake' of the statements on profiles. Condition: errors.errorType is laid. -/
import Derived.Test.YtpfgklkdldkajaaDoorLawKit
import Derived.Test.YtpfgklkdldkajaaDoorMPc
namespace Go.Proofs.YtpfgklkdldkajaaDoor
open Go.RowKit

set_option maxRecDepth 100000 in
set_option maxHeartbeats 1000000 in
theorem two9_any (w : World) : Calls Tryd.prog 46 #[] w (ProgL twoP 2 w) := by
  have HR := Lib.hid (two_reads w)
  have HB := Lib.hid (allocsL_below (twoO w.heap.size) w)
  go_enter Tryd.func46, Tryd.ntmps46
  go_wp2_with fail
  exact bodyPost_ret (v := .agg #[.slice (some ⟨w.heap.size + 3, 0, none⟩) 2 2]) (by simp [results, Tryd.results46, go_sem]) rfl ⟨_, rfl, HR.out, HB.out⟩
end Go.Proofs.YtpfgklkdldkajaaDoor

namespace Go.Proofs.YtpfgklkdldkajaaDoor
open Go.RowKit

/-- A call that answers a profile of its own, and an error; how long it is. -/
def ProfN (r : List FPr) (n : Nat) (code : Int) (w : World) (e : Ending) (w' : World) : Prop :=
  ∃ A c vss, e = .returned (.tuple #[.agg #[.slice A n c], .int .i64 code]) ∧ OwnPr w' w.heap.size (.slice A n c) r vss ∧ Below w.heap.size w w'
theorem profN {r r' : List FPr} {code code' : Int} {n : Nat} {w : World} (hr : r' = r) (hc : code' = code) (hn : r.length = n) : ∀ e w', ProfE r' code' w e w' → ProfN r n code w e w' := by
  subst hr hc hn
  exact fun e w' h => h
theorem OwnPr.below {w w1 : World} {base : Nat} {v : Value} {r : List FPr} {vss : List (List Value)} (h : OwnPr w base v r vss) (hb : Below w.heap.size w w1) : OwnPr w1 base v r vss := OwnG.below h hb
def pw0 : List FPr := [⟨0, [0, 0, 0, 0, 0, 0], [0, 0, 0, 0, 0, 0], [⟨0, 0, 0⟩]⟩, ⟨0, [0, 0, 0, 0], [0, 0, 0, 0], [⟨0, 0, 0⟩, ⟨0, 0, 0⟩]⟩]
def pw1 : List FPr := [⟨0, [0, 0, 0, 0, 0, 0], [0, 0, 0, 0, 0, 0], [⟨0, 0, 0⟩]⟩, ⟨1, [0, 0, 0, 0], [0, 0, 0, 0], [⟨4, 1, 0⟩, ⟨5, 1, 0⟩]⟩]
def pw2 : List FPr := [⟨0, [0, 0, 0, 0, 0, 0], [0, 0, 0, 0, 0, 0], [⟨0, 0, 0⟩]⟩, ⟨2, [0, 0, 0, 0], [0, 0, 0, 0], [⟨4, 2, 0⟩, ⟨5, 1, 1⟩]⟩]
theorem pn0 : newR twoP = pw0 := by kernel_rfl
theorem pc0 : newC twoP = 0 := by kernel_rfl
theorem pn1 : calledR twoP pw0 1 [4, 5] = pw1 := by kernel_rfl
theorem pc1 : calledC twoP pw0 1 [4, 5] = 0 := by kernel_rfl
theorem pn2 : calledR twoP pw1 1 [4, 6] = pw2 := by kernel_rfl
theorem pc2 : calledC twoP pw1 1 [4, 6] = 0 := by kernel_rfl
theorem pn3 : branchedR twoP pw0 0 0 true = [] := by kernel_rfl
theorem pc3 : branchedC twoP pw0 0 0 = 900 := by kernel_rfl
theorem pn4 : newR [] = [] := by kernel_rfl
theorem pc4 : newC [] = 900 := by kernel_rfl
theorem pb1 : profB twoP pw2 = true := by kernel_rfl
theorem pb2 : profB twoP [] = false := by kernel_rfl
theorem pf0 : FitP pw0 := ⟨by decide, fun f hf => by simp [pw0] at hf; rcases hf with rfl | rfl <;> decide⟩
theorem pf1 : FitP pw1 := ⟨by decide, fun f hf => by simp [pw1] at hf; rcases hf with rfl | rfl <;> decide⟩
theorem pl0 : pw0.length = 2 := rfl
theorem pl1 : pw1.length = 2 := rfl
theorem pl2 : pw2.length = 2 := rfl
theorem newP_n (p : List Fn) (np : Nat) (Ap : Option Addr) (cp : Nat) (w : World) (hl : Laid w) (hp : ReadsF w Ap p) {r : List FPr} {code : Int} {n : Nat} (e : p.length = np) (hr : newR p = r) (hc : newC p = code) (hn : r.length = n) :
    Calls Tryd.prog 19 #[.agg #[.slice Ap np cp]] w (ProfN r n code w) := by
  subst e; exact (newP_any p Ap cp w hl hp).mono (profN hr hc hn)
theorem calledP_n (p : List Fn) (np : Nat) (s : List FPr) (ns : Nat) (fn : Int) (args : List Int) (na : Nat) (Ap Ar A : Option Addr) (cp cr c base : Nat) (vss : List (List Value)) (w : World) (hl : Laid w) (hp : ReadsF w Ap p) (ho : OwnPr w base (.slice Ar ns cr) s vss) (ha : ReadsI w A args) (hz : FitP s) {r : List FPr} {code : Int} {n : Nat}
    (e : p.length = np) (es : s.length = ns) (ea : args.length = na) (hr : calledR p s fn args = r) (hc : calledC p s fn args = code) (hn : r.length = n) :
    Calls Tryd.prog 20 #[.agg #[.slice Ap np cp], .agg #[.slice Ar ns cr], .int .i64 fn, .slice A na c] w (ProfN r n code w) := by
  subst e es ea; exact (calledP_any p s Ap Ar A cp cr c fn args w hl hp ho.reads.2 ha hz).mono (profN hr hc hn)
theorem branchedP_n (p : List Fn) (np : Nat) (s : List FPr) (ns : Nat) (fn pc : Int) (jumps : Bool) (Ap Ar : Option Addr) (cp cr base : Nat) (vss : List (List Value)) (w : World) (hl : Laid w) (hp : ReadsF w Ap p) (ho : OwnPr w base (.slice Ar ns cr) s vss) (hz : FitP s) {r : List FPr} {code : Int} {n : Nat}
    (e : p.length = np) (es : s.length = ns) (hr : branchedR p s fn pc jumps = r) (hc : branchedC p s fn pc = code) (hn : r.length = n) :
    Calls Tryd.prog 22 #[.agg #[.slice Ap np cp], .agg #[.slice Ar ns cr], .int .i64 fn, .int .i64 pc, .bool jumps] w (ProfN r n code w) := by
  subst e es; exact (branchedP_any p s Ap Ar cp cr fn pc jumps w hl hp ho.reads.2 hz).mono (profN hr hc hn)
theorem mayP_n (p : List Fn) (np : Nat) (s : List FPr) (ns : Nat) (Ap Ar : Option Addr) (cp cr : Nat) (w : World) (hl : Laid w) (hp : ReadsF w Ap p) (hs : ReadsP w Ar s) {b : Bool} (e : p.length = np) (es : s.length = ns) (hb : profB p s = b) :
    Calls Tryd.prog 21 #[.agg #[.slice Ap np cp], .agg #[.slice Ar ns cr]] w (Ret (.bool b) w) := by
  subst e es hb; exact mayP_any p s Ap Ar cp cr w hl hp hs
set_option maxRecDepth 100000 in
set_option maxHeartbeats 16000000 in
theorem awake9_any (w : World) (HL0 : Laid w) : Calls Tryd.prog 18 #[] w (Ret (.bool true) w) := by
  have HL := Lib.hid HL0
  clear HL0
  have B := Lib.hid (Below.refl w.heap.size w)
  have H := Lib.hid (two9_any w)
  go_enter Tryd.func18, Tryd.ntmps18
  go_wp2_with fail
  (with_reducible refine H.out.mono ?_)
  rintro e w1 ⟨gp, rfl, hr, hB⟩
  clear H
  replace HL := Lib.hid (HL.out.below hB)
  replace B := Lib.hid (below_trans B.out hB)
  have RP := Lib.hid (hr)
  clear hB hr
  have hb : Below w1.heap.size w1 (w1.alloc (.cells #[.slice (some ⟨gp, 0, none⟩) 2 2] 24)) := allocsL_below [.cells #[.slice (some ⟨gp, 0, none⟩) 2 2] 24] w1
  replace HL := Lib.hid (HL.out.below hb)
  replace B := Lib.hid (below_trans B.out hb)
  replace RP := Lib.hid (RP.out.below hb)
  have P := Lib.hid (show RowAt 24 (w1.heap.size) [.slice (some ⟨gp, 0, none⟩) 2 2] (w1.alloc (.cells #[.slice (some ⟨gp, 0, none⟩) 2 2] 24)) from rowL (w := w1) (os := [.cells #[.slice (some ⟨gp, 0, none⟩) 2 2] 24]) (i := 0) (cs := [.slice (some ⟨gp, 0, none⟩) 2 2]) (by simp) rfl)
  clear hb
  have H := Lib.hid (newP_n twoP 2 (some ⟨gp, 0, none⟩) 2 (w1.alloc (.cells #[.slice (some ⟨gp, 0, none⟩) 2 2] 24)) HL.out RP.out rfl pn0 pc0 pl0)
  have c0 := P.out.cell (k := 0) (by simp)
  simp only [List.getElem_cons_zero] at c0
  go_wp2_with fail
  (with_reducible refine H.out.mono ?_)
  rintro e w2 ⟨A1, d1, v1, rfl, ho, hB⟩
  clear H c0
  replace HL := Lib.hid (HL.out.below hB)
  replace B := Lib.hid (below_trans B.out hB)
  replace RP := Lib.hid (RP.out.below hB)
  replace P := Lib.hid (P.out.below hB)
  have O1 := Lib.hid (ho)
  clear hB ho
  have c1 := P.out.cell (k := 0) (by simp)
  simp only [List.getElem_cons_zero] at c1
  have c2 := cell_below (show Below w2.heap.size w2 (w2.alloc (.cells #[.slice A1 2 d1] 44)) from allocsL_below [.cells #[.slice A1 2 d1] 44] w2) c1
  have hb : Below w2.heap.size w2 ((w2.alloc (.cells #[.slice A1 2 d1] 44)).alloc (.cells #[.int .i64 4, .int .i64 5] 3)) := allocsL_below [.cells #[.slice A1 2 d1] 44, .cells #[.int .i64 4, .int .i64 5] 3] w2
  replace HL := Lib.hid (HL.out.below hb)
  replace B := Lib.hid (below_trans B.out hb)
  replace RP := Lib.hid (RP.out.below hb)
  replace P := Lib.hid (P.out.below hb)
  replace O1 := Lib.hid (O1.out.below hb)
  have Q1 := Lib.hid (show RowAt 44 (w2.heap.size) [.slice A1 2 d1] ((w2.alloc (.cells #[.slice A1 2 d1] 44)).alloc (.cells #[.int .i64 4, .int .i64 5] 3)) from rowL (w := w2) (os := [.cells #[.slice A1 2 d1] 44, .cells #[.int .i64 4, .int .i64 5] 3]) (i := 0) (cs := [.slice A1 2 d1]) (by simp) rfl)
  have T1 := Lib.hid (show RowAt 3 (w2.heap.size + 1) [.int .i64 4, .int .i64 5] ((w2.alloc (.cells #[.slice A1 2 d1] 44)).alloc (.cells #[.int .i64 4, .int .i64 5] 3)) from rowL (w := w2) (os := [.cells #[.slice A1 2 d1] 44, .cells #[.int .i64 4, .int .i64 5] 3]) (i := 1) (cs := [.int .i64 4, .int .i64 5]) (by simp) rfl)
  clear hb
  have H := Lib.hid (calledP_n twoP 2 pw0 2 1 [4, 5] 2 (some ⟨gp, 0, none⟩) A1 (some ⟨w2.heap.size + 1, 0, none⟩) 2 d1 2 _ v1 ((w2.alloc (.cells #[.slice A1 2 d1] 44)).alloc (.cells #[.int .i64 4, .int .i64 5] 3)) HL.out RP.out O1.out (intsL (xs := [4, 5]) T1.out (by simp)) pf0 rfl pl0 rfl pn1 pc1 pl1)
  have c3 := P.out.cell (k := 0) (by simp)
  simp only [List.getElem_cons_zero] at c3
  have c4 := Q1.out.cell (k := 0) (by simp)
  simp only [List.getElem_cons_zero] at c4
  go_wp2_with fail
  (with_reducible refine H.out.mono ?_)
  rintro e w3 ⟨A2, d2, v2, rfl, ho, hB⟩
  clear H c1 c2 c3 c4
  replace HL := Lib.hid (HL.out.below hB)
  replace B := Lib.hid (below_trans B.out hB)
  replace RP := Lib.hid (RP.out.below hB)
  replace P := Lib.hid (P.out.below hB)
  replace O1 := Lib.hid (O1.out.below hB)
  replace Q1 := Lib.hid (Q1.out.below hB)
  replace T1 := Lib.hid (T1.out.below hB)
  have O2 := Lib.hid (ho)
  clear hB ho
  have c5 := P.out.cell (k := 0) (by simp)
  simp only [List.getElem_cons_zero] at c5
  have c6 := cell_below (show Below w3.heap.size w3 (w3.alloc (.cells #[.slice A2 2 d2] 44)) from allocsL_below [.cells #[.slice A2 2 d2] 44] w3) c5
  have hb : Below w3.heap.size w3 ((w3.alloc (.cells #[.slice A2 2 d2] 44)).alloc (.cells #[.int .i64 4, .int .i64 6] 3)) := allocsL_below [.cells #[.slice A2 2 d2] 44, .cells #[.int .i64 4, .int .i64 6] 3] w3
  replace HL := Lib.hid (HL.out.below hb)
  replace B := Lib.hid (below_trans B.out hb)
  replace RP := Lib.hid (RP.out.below hb)
  replace P := Lib.hid (P.out.below hb)
  replace O1 := Lib.hid (O1.out.below hb)
  replace Q1 := Lib.hid (Q1.out.below hb)
  replace T1 := Lib.hid (T1.out.below hb)
  replace O2 := Lib.hid (O2.out.below hb)
  have Q2 := Lib.hid (show RowAt 44 (w3.heap.size) [.slice A2 2 d2] ((w3.alloc (.cells #[.slice A2 2 d2] 44)).alloc (.cells #[.int .i64 4, .int .i64 6] 3)) from rowL (w := w3) (os := [.cells #[.slice A2 2 d2] 44, .cells #[.int .i64 4, .int .i64 6] 3]) (i := 0) (cs := [.slice A2 2 d2]) (by simp) rfl)
  have T2 := Lib.hid (show RowAt 3 (w3.heap.size + 1) [.int .i64 4, .int .i64 6] ((w3.alloc (.cells #[.slice A2 2 d2] 44)).alloc (.cells #[.int .i64 4, .int .i64 6] 3)) from rowL (w := w3) (os := [.cells #[.slice A2 2 d2] 44, .cells #[.int .i64 4, .int .i64 6] 3]) (i := 1) (cs := [.int .i64 4, .int .i64 6]) (by simp) rfl)
  clear hb
  have H := Lib.hid (calledP_n twoP 2 pw1 2 1 [4, 6] 2 (some ⟨gp, 0, none⟩) A2 (some ⟨w3.heap.size + 1, 0, none⟩) 2 d2 2 _ v2 ((w3.alloc (.cells #[.slice A2 2 d2] 44)).alloc (.cells #[.int .i64 4, .int .i64 6] 3)) HL.out RP.out O2.out (intsL (xs := [4, 6]) T2.out (by simp)) pf1 rfl pl1 rfl pn2 pc2 pl2)
  have c7 := P.out.cell (k := 0) (by simp)
  simp only [List.getElem_cons_zero] at c7
  have c8 := Q2.out.cell (k := 0) (by simp)
  simp only [List.getElem_cons_zero] at c8
  go_wp2_with fail
  (with_reducible refine H.out.mono ?_)
  rintro e w4 ⟨A3, d3, v3, rfl, ho, hB⟩
  clear H c5 c6 c7 c8
  replace HL := Lib.hid (HL.out.below hB)
  replace B := Lib.hid (below_trans B.out hB)
  replace RP := Lib.hid (RP.out.below hB)
  replace P := Lib.hid (P.out.below hB)
  replace O1 := Lib.hid (O1.out.below hB)
  replace Q1 := Lib.hid (Q1.out.below hB)
  replace T1 := Lib.hid (T1.out.below hB)
  replace O2 := Lib.hid (O2.out.below hB)
  replace Q2 := Lib.hid (Q2.out.below hB)
  replace T2 := Lib.hid (T2.out.below hB)
  have O3 := Lib.hid (ho)
  clear hB ho
  have c9 := P.out.cell (k := 0) (by simp)
  simp only [List.getElem_cons_zero] at c9
  have c10 := Q1.out.cell (k := 0) (by simp)
  simp only [List.getElem_cons_zero] at c10
  have hb : Below w4.heap.size w4 (w4.alloc (.cells #[.slice A3 2 d3] 44)) := allocsL_below [.cells #[.slice A3 2 d3] 44] w4
  replace HL := Lib.hid (HL.out.below hb)
  replace B := Lib.hid (below_trans B.out hb)
  replace RP := Lib.hid (RP.out.below hb)
  replace P := Lib.hid (P.out.below hb)
  replace O1 := Lib.hid (O1.out.below hb)
  replace Q1 := Lib.hid (Q1.out.below hb)
  replace T1 := Lib.hid (T1.out.below hb)
  replace O2 := Lib.hid (O2.out.below hb)
  replace Q2 := Lib.hid (Q2.out.below hb)
  replace T2 := Lib.hid (T2.out.below hb)
  replace O3 := Lib.hid (O3.out.below hb)
  have Q3 := Lib.hid (show RowAt 44 (w4.heap.size) [.slice A3 2 d3] (w4.alloc (.cells #[.slice A3 2 d3] 44)) from rowL (w := w4) (os := [.cells #[.slice A3 2 d3] 44]) (i := 0) (cs := [.slice A3 2 d3]) (by simp) rfl)
  clear hb
  have H := Lib.hid (branchedP_n twoP 2 pw0 2 0 0 true (some ⟨gp, 0, none⟩) A1 2 d1 _ v1 (w4.alloc (.cells #[.slice A3 2 d3] 44)) HL.out RP.out O1.out pf0 rfl pl0 pn3 pc3 len0)
  have c11 := P.out.cell (k := 0) (by simp)
  simp only [List.getElem_cons_zero] at c11
  have c12 := Q1.out.cell (k := 0) (by simp)
  simp only [List.getElem_cons_zero] at c12
  go_wp2_with fail
  (with_reducible refine H.out.mono ?_)
  rintro e w5 ⟨A4, d4, v4, rfl, ho, hB⟩
  clear H c9 c10 c11 c12
  replace HL := Lib.hid (HL.out.below hB)
  replace B := Lib.hid (below_trans B.out hB)
  replace RP := Lib.hid (RP.out.below hB)
  replace P := Lib.hid (P.out.below hB)
  replace O1 := Lib.hid (O1.out.below hB)
  replace Q1 := Lib.hid (Q1.out.below hB)
  replace T1 := Lib.hid (T1.out.below hB)
  replace O2 := Lib.hid (O2.out.below hB)
  replace Q2 := Lib.hid (Q2.out.below hB)
  replace T2 := Lib.hid (T2.out.below hB)
  replace O3 := Lib.hid (O3.out.below hB)
  replace Q3 := Lib.hid (Q3.out.below hB)
  have O4 := Lib.hid (ho)
  clear hB ho
  have hb : Below w5.heap.size w5 (w5.alloc (.cells #[.slice A4 0 d4] 44)) := allocsL_below [.cells #[.slice A4 0 d4] 44] w5
  replace HL := Lib.hid (HL.out.below hb)
  replace B := Lib.hid (below_trans B.out hb)
  replace RP := Lib.hid (RP.out.below hb)
  replace P := Lib.hid (P.out.below hb)
  replace O1 := Lib.hid (O1.out.below hb)
  replace Q1 := Lib.hid (Q1.out.below hb)
  replace T1 := Lib.hid (T1.out.below hb)
  replace O2 := Lib.hid (O2.out.below hb)
  replace Q2 := Lib.hid (Q2.out.below hb)
  replace T2 := Lib.hid (T2.out.below hb)
  replace O3 := Lib.hid (O3.out.below hb)
  replace Q3 := Lib.hid (Q3.out.below hb)
  replace O4 := Lib.hid (O4.out.below hb)
  clear hb
  have H := Lib.hid (newP_n [] 0 none 0 (w5.alloc (.cells #[.slice A4 0 d4] 44)) HL.out ⟨by simp, fun h => absurd h (by simp)⟩ rfl pn4 pc4 len0)
  go_wp2_with fail
  (with_reducible refine H.out.mono ?_)
  rintro e w6 ⟨A5, d5, v5, rfl, ho, hB⟩
  clear H
  replace HL := Lib.hid (HL.out.below hB)
  replace B := Lib.hid (below_trans B.out hB)
  replace RP := Lib.hid (RP.out.below hB)
  replace P := Lib.hid (P.out.below hB)
  replace O1 := Lib.hid (O1.out.below hB)
  replace Q1 := Lib.hid (Q1.out.below hB)
  replace T1 := Lib.hid (T1.out.below hB)
  replace O2 := Lib.hid (O2.out.below hB)
  replace Q2 := Lib.hid (Q2.out.below hB)
  replace T2 := Lib.hid (T2.out.below hB)
  replace O3 := Lib.hid (O3.out.below hB)
  replace Q3 := Lib.hid (Q3.out.below hB)
  replace O4 := Lib.hid (O4.out.below hB)
  have O5 := Lib.hid (ho)
  clear hB ho
  have hb : Below w6.heap.size w6 (w6.alloc (.cells #[.slice A5 0 d5] 44)) := allocsL_below [.cells #[.slice A5 0 d5] 44] w6
  replace HL := Lib.hid (HL.out.below hb)
  replace B := Lib.hid (below_trans B.out hb)
  replace RP := Lib.hid (RP.out.below hb)
  replace P := Lib.hid (P.out.below hb)
  replace O1 := Lib.hid (O1.out.below hb)
  replace Q1 := Lib.hid (Q1.out.below hb)
  replace T1 := Lib.hid (T1.out.below hb)
  replace O2 := Lib.hid (O2.out.below hb)
  replace Q2 := Lib.hid (Q2.out.below hb)
  replace T2 := Lib.hid (T2.out.below hb)
  replace O3 := Lib.hid (O3.out.below hb)
  replace Q3 := Lib.hid (Q3.out.below hb)
  replace O4 := Lib.hid (O4.out.below hb)
  replace O5 := Lib.hid (O5.out.below hb)
  clear hb
  obtain ⟨g3, o3, e3, -, -, -, hk3, B1, b1, B2, b2, B3, b3, -, -, -, hA3, n0, n1, n2, n3, -⟩ := OwnPr.at_ O3.out (k := 1) (by decide)
  subst e3
  obtain ⟨ga, oa, eA, -, -, m0, m1, m2, -⟩ := args_at hA3 (j := 0) (by decide)
  subst eA
  obtain ⟨ga', oa', eA', -, -, q0, q1, q2, -⟩ := args_at hA3 (j := 1) (by decide)
  cases eA'
  simp only [show pw2[1].args = [⟨4, 2, 0⟩, ⟨5, 1, 1⟩] from rfl, show pw2[1].calls = 2 from rfl, List.getElem_cons_zero, List.getElem_cons_succ, len2, Nat.zero_mul, Nat.one_mul, Nat.add_zero] at n0 n3 m0 m1 m2 q0 q1 q2
  have H := Lib.hid (mayP_n twoP 2 pw2 2 (some ⟨gp, 0, none⟩) (some ⟨g3, o3, none⟩) 2 d3 (w6.alloc (.cells #[.slice A5 0 d5] 44)) HL.out RP.out O3.out.reads.2 rfl pl2 pb1)
  have H2 := Lib.hid (show ∀ W', Below (w6.alloc (.cells #[.slice A5 0 d5] 44)).heap.size (w6.alloc (.cells #[.slice A5 0 d5] 44)) W' → Calls Tryd.prog 21 #[.agg #[.slice (some ⟨gp, 0, none⟩) 2 2], .agg #[.slice none 0 0]] W' (Ret (.bool false) W') from fun W' hb => mayP_n twoP 2 [] 0 _ none 2 0 W' (HL.out.below hb) (RP.out.below hb) (readsP_nil _ _) rfl rfl pb2)
  have c13 := P.out.cell (k := 0) (by simp)
  simp only [List.getElem_cons_zero] at c13
  have c14 := Q3.out.cell (k := 0) (by simp)
  simp only [List.getElem_cons_zero] at c14
  go_wp2_with (first | (go_at_call 15; (with_reducible refine (numL_any _ _).mono ?_); rintro e wn ⟨rfl, rfl⟩) | fail)
  (with_reducible refine H.out.mono ?_)
  rintro e w7 ⟨rfl, hB⟩
  have H3 := Lib.hid (H2.out _ hB)
  clear H H2 m0 m1 m2 q0 q1 q2 n0 n1 n2 n3 c13 c14
  replace HL := Lib.hid (HL.out.below hB)
  replace B := Lib.hid (below_trans B.out hB)
  replace RP := Lib.hid (RP.out.below hB)
  replace P := Lib.hid (P.out.below hB)
  replace O1 := Lib.hid (O1.out.below hB)
  replace Q1 := Lib.hid (Q1.out.below hB)
  replace T1 := Lib.hid (T1.out.below hB)
  replace O2 := Lib.hid (O2.out.below hB)
  replace Q2 := Lib.hid (Q2.out.below hB)
  replace T2 := Lib.hid (T2.out.below hB)
  replace O3 := Lib.hid (O3.out.below hB)
  replace Q3 := Lib.hid (Q3.out.below hB)
  replace O4 := Lib.hid (O4.out.below hB)
  replace O5 := Lib.hid (O5.out.below hB)
  clear hB
  have c15 := P.out.cell (k := 0) (by simp)
  simp only [List.getElem_cons_zero] at c15
  go_wp2_with fail
  (with_reducible refine H3.out.mono ?_)
  rintro e w8 ⟨rfl, hB⟩
  go_wp2_with fail
  go_ret
  exact ⟨rfl, below_trans B.out hB⟩
end Go.Proofs.YtpfgklkdldkajaaDoor
