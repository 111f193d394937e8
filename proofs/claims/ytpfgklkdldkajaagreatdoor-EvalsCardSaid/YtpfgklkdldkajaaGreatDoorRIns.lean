/- The document's 'Instr' on a frame at a place. Conditions: the frame is the call's own and may be; the program lies in older memory. -/
import Derived.Test.YtpfgklkdldkajaaGreatDoorRCall
import Derived.StillTailTactics
import Derived.Deep.RegionHeld3
namespace Go.Proofs.YtpfgklkdldkajaaGreatDoor
open Go.RowKit

set_option maxRecDepth 100000 in
set_option maxHeartbeats 8000000 in
theorem rins0 {w W0 : World} {base g off cp : Nat} {p : List Fn} {Ap : Option Addr} {f : Frm} {v1 v2 : Value} (h : FAt w base g off f v1 v2) (hb : base ≤ w.heap.size) (hW : Below W0.heap.size W0 w) (hr : ReadsF W0 Ap p)
    {fn pc : Nat} (efn : f.fn = fn) (epc : f.pc = pc) (hfn : fn < p.length) (hpc : pc < p[fn].code.length) {a : Int} (hi : p[fn].code[pc] = ⟨0, a⟩) (d : Int) (h64 : p[fn].code.length ≤ 1000) (hs : f.stack.length ≤ 1000) :
    Calls Tryz.prog 97 #[.agg #[.slice Ap p.length cp], .pointer (some ⟨g, off, none⟩), .int .i64 d] w (RInsE (⟨f.fn, (pc : Int) + 1, f.locals, f.stack ++ [a]⟩) (⟨false, 0, [], false, 0, false, 0⟩) base g off v1 v2 w) := by
  obtain ⟨w1, hw1⟩ : ∃ w1, w.alloc (.cells #[.slice Ap p.length cp] 24) = w1 := ⟨_, rfl⟩
  have b1 : Below w.heap.size w w1 := hw1 ▸ below_alloc (Below.refl _ _) _
  have b2 : Below w1.heap.size w1 (w1.alloc (.cells #[.bool false, .int .i64 0, .slice none 0 0, .bool false, .int .i64 0, .bool false, .int .i64 0] 151)) := below_alloc (Below.refl _ _) _
  have b02 := below_trans b1 b2
  have y1 : w1.heap.size = w.heap.size + 1 := by rw [← hw1]; simp
  have r1 : RowAt 24 w.heap.size [.slice Ap p.length cp] (w1.alloc (.cells #[.bool false, .int .i64 0, .slice none 0 0, .bool false, .int .i64 0, .bool false, .int .i64 0] 151)) := (hw1 ▸ RowAt.new _ _ w : RowAt 24 w.heap.size [.slice Ap p.length cp] w1).below b2
  have r2 : RowAt 151 w1.heap.size [.bool false, .int .i64 0, .slice none 0 0, .bool false, .int .i64 0, .bool false, .int .i64 0] (w1.alloc (.cells #[.bool false, .int .i64 0, .slice none 0 0, .bool false, .int .i64 0, .bool false, .int .i64 0] 151)) := RowAt.new _ _ w1
  have hpw : wrap64 ((pc : Int) + 1) = pc + 1 := by unfold wrap64; omega
  have hF := h.below b02
  have hW2 := below_trans hW b02
  obtain ⟨ad, Ac, cc, rfl, c2, c0, c1, _⟩ := code_at hr hW2 hfn hpc
  have kP := row_cell r1
  obtain ⟨m0, m1, m2, m3, fz⟩ := hF.cells
  rw [efn] at m0
  rw [epc] at m1
  rw [hi] at c0 c1
  simp only at c0 c1
  have hpl := hr.1
  have HR1 := Lib.hid r1
  have HR2 := Lib.hid r2
  have HT2 := Lib.hid (FTurn.of_below h b02)
  have HW2 := Lib.hid hW2
  have AP := Lib.hid (fun (x : Nat) (hx : w.heap.size ≤ x) => h.apart hx)
  have Y := Lib.hid (And.intro y1 (show (w1.alloc (.cells #[.bool false, .int .i64 0, .slice none 0 0, .bool false, .int .i64 0, .bool false, .int .i64 0] 151)).heap.size = w.heap.size + 2 by simp [y1]))
  have HB := Lib.hid hb
  have HPR := Lib.hid hr
  have HW := Lib.hid hW
  have HV2 := Lib.hid h.lo2
  clear y1 h hb hW hr hi r1 r2 hF hW2 fz m2 m3 b1 b2 b02 efn
  go_enter Tryz.func97, Tryz.ntmps97
  go_upto_region 1 with fail
  generalize hw2 : (w1.alloc (.cells #[.bool false, .int .i64 0, .slice none 0 0, .bool false, .int .i64 0, .bool false, .int .i64 0] 151)) = w2 at *
  clear hw1 hw2
  have b3 := below_alloc (Below.refl w2.heap.size w2) (.cells #[.int .i64 0, .int .i64 0] 62)
  have kP3 := cell_below b3 kP
  have c23 := cell_below b3 c2
  have c03 := cell_below b3 c0
  have c13 := cell_below b3 c1
  have m03 := cell_below b3 m0
  have m13 := cell_below b3 m1
  clear b3
  go_region
  clear kP3 c23 c03 c13 m03 m13 kP c0 c1 c2 m0 m1
  have b3 : Below w2.heap.size w2 (w2.alloc (.cells #[.int .i64 0, .int .i64 a] 62)).drew := below_drw (below_alloc (Below.refl w2.heap.size w2) _)
  have rI : RowAt 62 w2.heap.size [.int .i64 0, .int .i64 a] (w2.alloc (.cells #[.int .i64 0, .int .i64 a] 62)).drew := RowAt.new _ _ w2
  generalize hw3 : (w2.alloc (.cells #[.int .i64 0, .int .i64 a] 62)).drew = w3 at *
  have T3 := HT2.out.after b3
  obtain ⟨_, m1, _, _, fz⟩ := T3.at_.cells
  rw [epc] at m1
  have hz1 := fz (off + 1)
  obtain ⟨w4, hw4⟩ : ∃ w4, w3.setCell ⟨g, off + 1, none⟩ (.int .i64 ((pc : Int) + 1)) = w4 := ⟨_, rfl⟩
  have hP4 := T3.at_.put_pc ((pc : Int) + 1)
  rw [hw4] at hP4
  have T4 := Lib.hid (T3.trans hP4)
  have row4 : ∀ {t b : Nat} {cs : List Value}, RowAt t b cs w2 → w.heap.size ≤ b → RowAt t b cs w4 := fun hr hx => hP4.row (hr.below b3) (AP.out _ hx).1 (AP.out _ hx).2.1 (AP.out _ hx).2.2
  have rI4 := hP4.row rI (AP.out _ (show w.heap.size ≤ w2.heap.size by have := Y.out; omega)).1 (AP.out _ (show w.heap.size ≤ w2.heap.size by have := Y.out; omega)).2.1 (AP.out _ (show w.heap.size ≤ w2.heap.size by have := Y.out; omega)).2.2
  have R1 := Lib.hid (row4 HR1.out (Nat.le_refl _))
  have R2 := Lib.hid (row4 HR2.out (by have := Y.out; omega))
  have RI := Lib.hid rI4
  have i0 := rI4.cell (k := 0) (by simp)
  have i1 := rI4.cell (k := 1) (by simp)
  simp only [List.getElem_cons_zero, List.getElem_cons_succ] at i0 i1
  have S4 := Lib.hid (show w2.heap.size < w4.heap.size from blk_lt rI4)
  clear T3 hP4 row4 rI4 rI fz HT2 HR1 HR2
  have H := Lib.hid (rpush_at T4.out.at_ (Nat.le_trans HB.out T4.out.chg.size) hs a)
  clear hs
  go_wp2_with fail
  (with_reducible refine H.out.mono ?_)
  rintro e w5 ⟨u5, rfl, q⟩
  have T5 := Lib.hid (T4.out.trans q)
  have NU := Lib.hid (show ob u5 ≠ some w1.heap.size from fun e => by
    rcases q.new _ e with e | e
    · exact (AP.out _ (show w.heap.size ≤ w1.heap.size by have := Y.out; omega)).2.2 e
    · have := S4.out; have := Y.out; omega)
  have R25 := Lib.hid (q.row R2.out (AP.out _ (show w.heap.size ≤ w1.heap.size by have := Y.out; omega)).1 (AP.out _ (show w.heap.size ≤ w1.heap.size by have := Y.out; omega)).2.1 (AP.out _ (show w.heap.size ≤ w1.heap.size by have := Y.out; omega)).2.2)
  clear q i0 i1
  obtain ⟨q0, q1, q2, q3, q4, q5, q6⟩ := row7 R25.out
  have z_ := fun k => (R25.out).free k
  have z0 := z_ 0
  have z1 := z_ 1
  have z2 := z_ 2
  have z3 := z_ 3
  have z4 := z_ 4
  have z5 := z_ 5
  have z6 := z_ 6
  have pz := put7 R25.out rfl (.bool false) (.int .i64 (0)) (.slice none 0 0) (.bool false) (.int .i64 (0)) (.bool false) (.int .i64 (0))
  have EE := Lib.hid pz.1
  have HR := Lib.hid (rins_end (d := ⟨false, 0, [], false, 0, false, 0⟩) (va := .slice none 0 0) T5.out (innI_nil _ _) (fun _ e => by cases e) pz.2 (show w.heap.size ≤ w1.heap.size by have := Y.out; omega) (AP.out _ (show w.heap.size ≤ w1.heap.size by have := Y.out; omega)).1 (AP.out _ (show w.heap.size ≤ w1.heap.size by have := Y.out; omega)).2.1 NU.out (fun e => by cases e))
  clear z_ pz
  go_wp2_with fail
  exact bodyPost_ret (v := .agg (didC (⟨false, 0, [], false, 0, false, 0⟩) (.slice none 0 0)).toArray) (by simp [results, Tryz.results97, go_sem, didC, EE.out.1, EE.out.2.1, EE.out.2.2.1, EE.out.2.2.2.1, EE.out.2.2.2.2.1, EE.out.2.2.2.2.2.1, EE.out.2.2.2.2.2.2]) rfl HR.out
set_option maxRecDepth 100000 in
set_option maxHeartbeats 8000000 in
theorem rins11 {w W0 : World} {base g off cp : Nat} {p : List Fn} {Ap : Option Addr} {f : Frm} {v1 v2 : Value} (h : FAt w base g off f v1 v2) (hb : base ≤ w.heap.size) (hW : Below W0.heap.size W0 w) (hr : ReadsF W0 Ap p)
    {fn pc : Nat} (efn : f.fn = fn) (epc : f.pc = pc) (hfn : fn < p.length) (hpc : pc < p[fn].code.length) {a : Int} (hi : p[fn].code[pc] = ⟨11, a⟩) (d : Int) (h64 : p[fn].code.length ≤ 1000) (ht : 0 < f.stack.length) :
    Calls Tryz.prog 97 #[.agg #[.slice Ap p.length cp], .pointer (some ⟨g, off, none⟩), .int .i64 d] w (RInsE (⟨f.fn, (pc : Int) + 1, f.locals, f.stack.dropLast⟩) (⟨false, 0, [], false, 0, false, 0⟩) base g off v1 v2 w) := by
  obtain ⟨w1, hw1⟩ : ∃ w1, w.alloc (.cells #[.slice Ap p.length cp] 24) = w1 := ⟨_, rfl⟩
  have b1 : Below w.heap.size w w1 := hw1 ▸ below_alloc (Below.refl _ _) _
  have b2 : Below w1.heap.size w1 (w1.alloc (.cells #[.bool false, .int .i64 0, .slice none 0 0, .bool false, .int .i64 0, .bool false, .int .i64 0] 151)) := below_alloc (Below.refl _ _) _
  have b02 := below_trans b1 b2
  have y1 : w1.heap.size = w.heap.size + 1 := by rw [← hw1]; simp
  have r1 : RowAt 24 w.heap.size [.slice Ap p.length cp] (w1.alloc (.cells #[.bool false, .int .i64 0, .slice none 0 0, .bool false, .int .i64 0, .bool false, .int .i64 0] 151)) := (hw1 ▸ RowAt.new _ _ w : RowAt 24 w.heap.size [.slice Ap p.length cp] w1).below b2
  have r2 : RowAt 151 w1.heap.size [.bool false, .int .i64 0, .slice none 0 0, .bool false, .int .i64 0, .bool false, .int .i64 0] (w1.alloc (.cells #[.bool false, .int .i64 0, .slice none 0 0, .bool false, .int .i64 0, .bool false, .int .i64 0] 151)) := RowAt.new _ _ w1
  have hpw : wrap64 ((pc : Int) + 1) = pc + 1 := by unfold wrap64; omega
  have hF := h.below b02
  have hW2 := below_trans hW b02
  obtain ⟨ad, Ac, cc, rfl, c2, c0, c1, _⟩ := code_at hr hW2 hfn hpc
  have kP := row_cell r1
  obtain ⟨m0, m1, m2, m3, fz⟩ := hF.cells
  rw [efn] at m0
  rw [epc] at m1
  rw [hi] at c0 c1
  simp only at c0 c1
  have hpl := hr.1
  have HR1 := Lib.hid r1
  have HR2 := Lib.hid r2
  have HT2 := Lib.hid (FTurn.of_below h b02)
  have HW2 := Lib.hid hW2
  have AP := Lib.hid (fun (x : Nat) (hx : w.heap.size ≤ x) => h.apart hx)
  have Y := Lib.hid (And.intro y1 (show (w1.alloc (.cells #[.bool false, .int .i64 0, .slice none 0 0, .bool false, .int .i64 0, .bool false, .int .i64 0] 151)).heap.size = w.heap.size + 2 by simp [y1]))
  have HB := Lib.hid hb
  have HPR := Lib.hid hr
  have HW := Lib.hid hW
  have HV2 := Lib.hid h.lo2
  clear y1 h hb hW hr hi r1 r2 hF hW2 fz m2 m3 b1 b2 b02 efn
  go_enter Tryz.func97, Tryz.ntmps97
  go_upto_region 1 with fail
  generalize hw2 : (w1.alloc (.cells #[.bool false, .int .i64 0, .slice none 0 0, .bool false, .int .i64 0, .bool false, .int .i64 0] 151)) = w2 at *
  clear hw1 hw2
  have b3 := below_alloc (Below.refl w2.heap.size w2) (.cells #[.int .i64 0, .int .i64 0] 62)
  have kP3 := cell_below b3 kP
  have c23 := cell_below b3 c2
  have c03 := cell_below b3 c0
  have c13 := cell_below b3 c1
  have m03 := cell_below b3 m0
  have m13 := cell_below b3 m1
  clear b3
  go_region
  clear kP3 c23 c03 c13 m03 m13 kP c0 c1 c2 m0 m1
  have b3 : Below w2.heap.size w2 (w2.alloc (.cells #[.int .i64 11, .int .i64 a] 62)).drew := below_drw (below_alloc (Below.refl w2.heap.size w2) _)
  have rI : RowAt 62 w2.heap.size [.int .i64 11, .int .i64 a] (w2.alloc (.cells #[.int .i64 11, .int .i64 a] 62)).drew := RowAt.new _ _ w2
  generalize hw3 : (w2.alloc (.cells #[.int .i64 11, .int .i64 a] 62)).drew = w3 at *
  have T3 := HT2.out.after b3
  obtain ⟨_, m1, _, _, fz⟩ := T3.at_.cells
  rw [epc] at m1
  have hz1 := fz (off + 1)
  obtain ⟨w4, hw4⟩ : ∃ w4, w3.setCell ⟨g, off + 1, none⟩ (.int .i64 ((pc : Int) + 1)) = w4 := ⟨_, rfl⟩
  have hP4 := T3.at_.put_pc ((pc : Int) + 1)
  rw [hw4] at hP4
  have T4 := Lib.hid (T3.trans hP4)
  have row4 : ∀ {t b : Nat} {cs : List Value}, RowAt t b cs w2 → w.heap.size ≤ b → RowAt t b cs w4 := fun hr hx => hP4.row (hr.below b3) (AP.out _ hx).1 (AP.out _ hx).2.1 (AP.out _ hx).2.2
  have rI4 := hP4.row rI (AP.out _ (show w.heap.size ≤ w2.heap.size by have := Y.out; omega)).1 (AP.out _ (show w.heap.size ≤ w2.heap.size by have := Y.out; omega)).2.1 (AP.out _ (show w.heap.size ≤ w2.heap.size by have := Y.out; omega)).2.2
  have R1 := Lib.hid (row4 HR1.out (Nat.le_refl _))
  have R2 := Lib.hid (row4 HR2.out (by have := Y.out; omega))
  have RI := Lib.hid rI4
  have i0 := rI4.cell (k := 0) (by simp)
  have i1 := rI4.cell (k := 1) (by simp)
  simp only [List.getElem_cons_zero, List.getElem_cons_succ] at i0 i1
  have S4 := Lib.hid (show w2.heap.size < w4.heap.size from blk_lt rI4)
  clear T3 hP4 row4 rI4 rI fz HT2 HR1 HR2
  have H := Lib.hid (rpop_at T4.out.at_ ht)
  clear ht
  go_wp2_with fail
  (with_reducible refine H.out.mono ?_)
  rintro e w5 ⟨u5, rfl, q⟩
  have T5 := Lib.hid (T4.out.trans q)
  have NU := Lib.hid (show ob u5 ≠ some w1.heap.size from fun e => by
    rcases q.new _ e with e | e
    · exact (AP.out _ (show w.heap.size ≤ w1.heap.size by have := Y.out; omega)).2.2 e
    · have := S4.out; have := Y.out; omega)
  have R25 := Lib.hid (q.row R2.out (AP.out _ (show w.heap.size ≤ w1.heap.size by have := Y.out; omega)).1 (AP.out _ (show w.heap.size ≤ w1.heap.size by have := Y.out; omega)).2.1 (AP.out _ (show w.heap.size ≤ w1.heap.size by have := Y.out; omega)).2.2)
  clear q i0 i1
  obtain ⟨q0, q1, q2, q3, q4, q5, q6⟩ := row7 R25.out
  have z_ := fun k => (R25.out).free k
  have z0 := z_ 0
  have z1 := z_ 1
  have z2 := z_ 2
  have z3 := z_ 3
  have z4 := z_ 4
  have z5 := z_ 5
  have z6 := z_ 6
  have pz := put7 R25.out rfl (.bool false) (.int .i64 (0)) (.slice none 0 0) (.bool false) (.int .i64 (0)) (.bool false) (.int .i64 (0))
  have EE := Lib.hid pz.1
  have HR := Lib.hid (rins_end (d := ⟨false, 0, [], false, 0, false, 0⟩) (va := .slice none 0 0) T5.out (innI_nil _ _) (fun _ e => by cases e) pz.2 (show w.heap.size ≤ w1.heap.size by have := Y.out; omega) (AP.out _ (show w.heap.size ≤ w1.heap.size by have := Y.out; omega)).1 (AP.out _ (show w.heap.size ≤ w1.heap.size by have := Y.out; omega)).2.1 NU.out (fun e => by cases e))
  clear z_ pz
  go_wp2_with fail
  exact bodyPost_ret (v := .agg (didC (⟨false, 0, [], false, 0, false, 0⟩) (.slice none 0 0)).toArray) (by simp [results, Tryz.results97, go_sem, didC, EE.out.1, EE.out.2.1, EE.out.2.2.1, EE.out.2.2.2.1, EE.out.2.2.2.2.1, EE.out.2.2.2.2.2.1, EE.out.2.2.2.2.2.2]) rfl HR.out
set_option maxRecDepth 100000 in
set_option maxHeartbeats 8000000 in
theorem rins15 {w W0 : World} {base g off cp : Nat} {p : List Fn} {Ap : Option Addr} {f : Frm} {v1 v2 : Value} (h : FAt w base g off f v1 v2) (hb : base ≤ w.heap.size) (hW : Below W0.heap.size W0 w) (hr : ReadsF W0 Ap p)
    {fn pc : Nat} (efn : f.fn = fn) (epc : f.pc = pc) (hfn : fn < p.length) (hpc : pc < p[fn].code.length) {a : Int} (hi : p[fn].code[pc] = ⟨15, a⟩) (d : Int) (h64 : p[fn].code.length ≤ 1000) (ht : 0 < f.stack.length) :
    Calls Tryz.prog 97 #[.agg #[.slice Ap p.length cp], .pointer (some ⟨g, off, none⟩), .int .i64 d] w (RInsE (⟨f.fn, (pc : Int) + 1, f.locals, f.stack.dropLast⟩) (⟨false, 0, [], false, lastN f.stack, true, 0⟩) base g off v1 v2 w) := by
  obtain ⟨w1, hw1⟩ : ∃ w1, w.alloc (.cells #[.slice Ap p.length cp] 24) = w1 := ⟨_, rfl⟩
  have b1 : Below w.heap.size w w1 := hw1 ▸ below_alloc (Below.refl _ _) _
  have b2 : Below w1.heap.size w1 (w1.alloc (.cells #[.bool false, .int .i64 0, .slice none 0 0, .bool false, .int .i64 0, .bool false, .int .i64 0] 151)) := below_alloc (Below.refl _ _) _
  have b02 := below_trans b1 b2
  have y1 : w1.heap.size = w.heap.size + 1 := by rw [← hw1]; simp
  have r1 : RowAt 24 w.heap.size [.slice Ap p.length cp] (w1.alloc (.cells #[.bool false, .int .i64 0, .slice none 0 0, .bool false, .int .i64 0, .bool false, .int .i64 0] 151)) := (hw1 ▸ RowAt.new _ _ w : RowAt 24 w.heap.size [.slice Ap p.length cp] w1).below b2
  have r2 : RowAt 151 w1.heap.size [.bool false, .int .i64 0, .slice none 0 0, .bool false, .int .i64 0, .bool false, .int .i64 0] (w1.alloc (.cells #[.bool false, .int .i64 0, .slice none 0 0, .bool false, .int .i64 0, .bool false, .int .i64 0] 151)) := RowAt.new _ _ w1
  have hpw : wrap64 ((pc : Int) + 1) = pc + 1 := by unfold wrap64; omega
  have hF := h.below b02
  have hW2 := below_trans hW b02
  obtain ⟨ad, Ac, cc, rfl, c2, c0, c1, _⟩ := code_at hr hW2 hfn hpc
  have kP := row_cell r1
  obtain ⟨m0, m1, m2, m3, fz⟩ := hF.cells
  rw [efn] at m0
  rw [epc] at m1
  rw [hi] at c0 c1
  simp only at c0 c1
  have hpl := hr.1
  have HR1 := Lib.hid r1
  have HR2 := Lib.hid r2
  have HT2 := Lib.hid (FTurn.of_below h b02)
  have HW2 := Lib.hid hW2
  have AP := Lib.hid (fun (x : Nat) (hx : w.heap.size ≤ x) => h.apart hx)
  have Y := Lib.hid (And.intro y1 (show (w1.alloc (.cells #[.bool false, .int .i64 0, .slice none 0 0, .bool false, .int .i64 0, .bool false, .int .i64 0] 151)).heap.size = w.heap.size + 2 by simp [y1]))
  have HB := Lib.hid hb
  have HPR := Lib.hid hr
  have HW := Lib.hid hW
  have HV2 := Lib.hid h.lo2
  clear y1 h hb hW hr hi r1 r2 hF hW2 fz m2 m3 b1 b2 b02 efn
  go_enter Tryz.func97, Tryz.ntmps97
  go_upto_region 1 with fail
  generalize hw2 : (w1.alloc (.cells #[.bool false, .int .i64 0, .slice none 0 0, .bool false, .int .i64 0, .bool false, .int .i64 0] 151)) = w2 at *
  clear hw1 hw2
  have b3 := below_alloc (Below.refl w2.heap.size w2) (.cells #[.int .i64 0, .int .i64 0] 62)
  have kP3 := cell_below b3 kP
  have c23 := cell_below b3 c2
  have c03 := cell_below b3 c0
  have c13 := cell_below b3 c1
  have m03 := cell_below b3 m0
  have m13 := cell_below b3 m1
  clear b3
  go_region
  clear kP3 c23 c03 c13 m03 m13 kP c0 c1 c2 m0 m1
  have b3 : Below w2.heap.size w2 (w2.alloc (.cells #[.int .i64 15, .int .i64 a] 62)).drew := below_drw (below_alloc (Below.refl w2.heap.size w2) _)
  have rI : RowAt 62 w2.heap.size [.int .i64 15, .int .i64 a] (w2.alloc (.cells #[.int .i64 15, .int .i64 a] 62)).drew := RowAt.new _ _ w2
  generalize hw3 : (w2.alloc (.cells #[.int .i64 15, .int .i64 a] 62)).drew = w3 at *
  have T3 := HT2.out.after b3
  obtain ⟨_, m1, _, _, fz⟩ := T3.at_.cells
  rw [epc] at m1
  have hz1 := fz (off + 1)
  obtain ⟨w4, hw4⟩ : ∃ w4, w3.setCell ⟨g, off + 1, none⟩ (.int .i64 ((pc : Int) + 1)) = w4 := ⟨_, rfl⟩
  have hP4 := T3.at_.put_pc ((pc : Int) + 1)
  rw [hw4] at hP4
  have T4 := Lib.hid (T3.trans hP4)
  have row4 : ∀ {t b : Nat} {cs : List Value}, RowAt t b cs w2 → w.heap.size ≤ b → RowAt t b cs w4 := fun hr hx => hP4.row (hr.below b3) (AP.out _ hx).1 (AP.out _ hx).2.1 (AP.out _ hx).2.2
  have rI4 := hP4.row rI (AP.out _ (show w.heap.size ≤ w2.heap.size by have := Y.out; omega)).1 (AP.out _ (show w.heap.size ≤ w2.heap.size by have := Y.out; omega)).2.1 (AP.out _ (show w.heap.size ≤ w2.heap.size by have := Y.out; omega)).2.2
  have R1 := Lib.hid (row4 HR1.out (Nat.le_refl _))
  have R2 := Lib.hid (row4 HR2.out (by have := Y.out; omega))
  have RI := Lib.hid rI4
  have i0 := rI4.cell (k := 0) (by simp)
  have i1 := rI4.cell (k := 1) (by simp)
  simp only [List.getElem_cons_zero, List.getElem_cons_succ] at i0 i1
  have S4 := Lib.hid (show w2.heap.size < w4.heap.size from blk_lt rI4)
  clear T3 hP4 row4 rI4 rI fz HT2 HR1 HR2
  have H := Lib.hid (rpop_at T4.out.at_ ht)
  clear ht
  go_wp2_with fail
  (with_reducible refine H.out.mono ?_)
  rintro e w5 ⟨u5, rfl, q⟩
  have T5 := Lib.hid (T4.out.trans q)
  have NU := Lib.hid (show ob u5 ≠ some w1.heap.size from fun e => by
    rcases q.new _ e with e | e
    · exact (AP.out _ (show w.heap.size ≤ w1.heap.size by have := Y.out; omega)).2.2 e
    · have := S4.out; have := Y.out; omega)
  have R25 := Lib.hid (q.row R2.out (AP.out _ (show w.heap.size ≤ w1.heap.size by have := Y.out; omega)).1 (AP.out _ (show w.heap.size ≤ w1.heap.size by have := Y.out; omega)).2.1 (AP.out _ (show w.heap.size ≤ w1.heap.size by have := Y.out; omega)).2.2)
  clear q i0 i1
  obtain ⟨q0, q1, q2, q3, q4, q5, q6⟩ := row7 R25.out
  have z_ := fun k => (R25.out).free k
  have z0 := z_ 0
  have z1 := z_ 1
  have z2 := z_ 2
  have z3 := z_ 3
  have z4 := z_ 4
  have z5 := z_ 5
  have z6 := z_ 6
  have pz := put7 R25.out rfl (.bool false) (.int .i64 (0)) (.slice none 0 0) (.bool false) (.int .i64 (lastN f.stack)) (.bool true) (.int .i64 (0))
  have EE := Lib.hid pz.1
  have HR := Lib.hid (rins_end (d := ⟨false, 0, [], false, lastN f.stack, true, 0⟩) (va := .slice none 0 0) T5.out (innI_nil _ _) (fun _ e => by cases e) pz.2 (show w.heap.size ≤ w1.heap.size by have := Y.out; omega) (AP.out _ (show w.heap.size ≤ w1.heap.size by have := Y.out; omega)).1 (AP.out _ (show w.heap.size ≤ w1.heap.size by have := Y.out; omega)).2.1 NU.out (fun e => by cases e))
  clear z_ pz
  go_wp2_with fail
  exact bodyPost_ret (v := .agg (didC (⟨false, 0, [], false, lastN f.stack, true, 0⟩) (.slice none 0 0)).toArray) (by simp [results, Tryz.results97, go_sem, didC, EE.out.1, EE.out.2.1, EE.out.2.2.1, EE.out.2.2.2.1, EE.out.2.2.2.2.1, EE.out.2.2.2.2.2.1, EE.out.2.2.2.2.2.2]) rfl HR.out
set_option maxRecDepth 100000 in
set_option maxHeartbeats 8000000 in
theorem rins16 {w W0 : World} {base g off cp : Nat} {p : List Fn} {Ap : Option Addr} {f : Frm} {v1 v2 : Value} (h : FAt w base g off f v1 v2) (hb : base ≤ w.heap.size) (hW : Below W0.heap.size W0 w) (hr : ReadsF W0 Ap p)
    {fn pc : Nat} (efn : f.fn = fn) (epc : f.pc = pc) (hfn : fn < p.length) (hpc : pc < p[fn].code.length) {a : Int} (hi : p[fn].code[pc] = ⟨16, a⟩) (d : Int) (h64 : p[fn].code.length ≤ 1000) (ht : 0 < f.stack.length) :
    Calls Tryz.prog 97 #[.agg #[.slice Ap p.length cp], .pointer (some ⟨g, off, none⟩), .int .i64 d] w (RInsE (⟨f.fn, (pc : Int) + 1, f.locals, f.stack.dropLast⟩) (⟨false, 0, [], true, lastN f.stack, false, 0⟩) base g off v1 v2 w) := by
  obtain ⟨w1, hw1⟩ : ∃ w1, w.alloc (.cells #[.slice Ap p.length cp] 24) = w1 := ⟨_, rfl⟩
  have b1 : Below w.heap.size w w1 := hw1 ▸ below_alloc (Below.refl _ _) _
  have b2 : Below w1.heap.size w1 (w1.alloc (.cells #[.bool false, .int .i64 0, .slice none 0 0, .bool false, .int .i64 0, .bool false, .int .i64 0] 151)) := below_alloc (Below.refl _ _) _
  have b02 := below_trans b1 b2
  have y1 : w1.heap.size = w.heap.size + 1 := by rw [← hw1]; simp
  have r1 : RowAt 24 w.heap.size [.slice Ap p.length cp] (w1.alloc (.cells #[.bool false, .int .i64 0, .slice none 0 0, .bool false, .int .i64 0, .bool false, .int .i64 0] 151)) := (hw1 ▸ RowAt.new _ _ w : RowAt 24 w.heap.size [.slice Ap p.length cp] w1).below b2
  have r2 : RowAt 151 w1.heap.size [.bool false, .int .i64 0, .slice none 0 0, .bool false, .int .i64 0, .bool false, .int .i64 0] (w1.alloc (.cells #[.bool false, .int .i64 0, .slice none 0 0, .bool false, .int .i64 0, .bool false, .int .i64 0] 151)) := RowAt.new _ _ w1
  have hpw : wrap64 ((pc : Int) + 1) = pc + 1 := by unfold wrap64; omega
  have hF := h.below b02
  have hW2 := below_trans hW b02
  obtain ⟨ad, Ac, cc, rfl, c2, c0, c1, _⟩ := code_at hr hW2 hfn hpc
  have kP := row_cell r1
  obtain ⟨m0, m1, m2, m3, fz⟩ := hF.cells
  rw [efn] at m0
  rw [epc] at m1
  rw [hi] at c0 c1
  simp only at c0 c1
  have hpl := hr.1
  have HR1 := Lib.hid r1
  have HR2 := Lib.hid r2
  have HT2 := Lib.hid (FTurn.of_below h b02)
  have HW2 := Lib.hid hW2
  have AP := Lib.hid (fun (x : Nat) (hx : w.heap.size ≤ x) => h.apart hx)
  have Y := Lib.hid (And.intro y1 (show (w1.alloc (.cells #[.bool false, .int .i64 0, .slice none 0 0, .bool false, .int .i64 0, .bool false, .int .i64 0] 151)).heap.size = w.heap.size + 2 by simp [y1]))
  have HB := Lib.hid hb
  have HPR := Lib.hid hr
  have HW := Lib.hid hW
  have HV2 := Lib.hid h.lo2
  clear y1 h hb hW hr hi r1 r2 hF hW2 fz m2 m3 b1 b2 b02 efn
  go_enter Tryz.func97, Tryz.ntmps97
  go_upto_region 1 with fail
  generalize hw2 : (w1.alloc (.cells #[.bool false, .int .i64 0, .slice none 0 0, .bool false, .int .i64 0, .bool false, .int .i64 0] 151)) = w2 at *
  clear hw1 hw2
  have b3 := below_alloc (Below.refl w2.heap.size w2) (.cells #[.int .i64 0, .int .i64 0] 62)
  have kP3 := cell_below b3 kP
  have c23 := cell_below b3 c2
  have c03 := cell_below b3 c0
  have c13 := cell_below b3 c1
  have m03 := cell_below b3 m0
  have m13 := cell_below b3 m1
  clear b3
  go_region
  clear kP3 c23 c03 c13 m03 m13 kP c0 c1 c2 m0 m1
  have b3 : Below w2.heap.size w2 (w2.alloc (.cells #[.int .i64 16, .int .i64 a] 62)).drew := below_drw (below_alloc (Below.refl w2.heap.size w2) _)
  have rI : RowAt 62 w2.heap.size [.int .i64 16, .int .i64 a] (w2.alloc (.cells #[.int .i64 16, .int .i64 a] 62)).drew := RowAt.new _ _ w2
  generalize hw3 : (w2.alloc (.cells #[.int .i64 16, .int .i64 a] 62)).drew = w3 at *
  have T3 := HT2.out.after b3
  obtain ⟨_, m1, _, _, fz⟩ := T3.at_.cells
  rw [epc] at m1
  have hz1 := fz (off + 1)
  obtain ⟨w4, hw4⟩ : ∃ w4, w3.setCell ⟨g, off + 1, none⟩ (.int .i64 ((pc : Int) + 1)) = w4 := ⟨_, rfl⟩
  have hP4 := T3.at_.put_pc ((pc : Int) + 1)
  rw [hw4] at hP4
  have T4 := Lib.hid (T3.trans hP4)
  have row4 : ∀ {t b : Nat} {cs : List Value}, RowAt t b cs w2 → w.heap.size ≤ b → RowAt t b cs w4 := fun hr hx => hP4.row (hr.below b3) (AP.out _ hx).1 (AP.out _ hx).2.1 (AP.out _ hx).2.2
  have rI4 := hP4.row rI (AP.out _ (show w.heap.size ≤ w2.heap.size by have := Y.out; omega)).1 (AP.out _ (show w.heap.size ≤ w2.heap.size by have := Y.out; omega)).2.1 (AP.out _ (show w.heap.size ≤ w2.heap.size by have := Y.out; omega)).2.2
  have R1 := Lib.hid (row4 HR1.out (Nat.le_refl _))
  have R2 := Lib.hid (row4 HR2.out (by have := Y.out; omega))
  have RI := Lib.hid rI4
  have i0 := rI4.cell (k := 0) (by simp)
  have i1 := rI4.cell (k := 1) (by simp)
  simp only [List.getElem_cons_zero, List.getElem_cons_succ] at i0 i1
  have S4 := Lib.hid (show w2.heap.size < w4.heap.size from blk_lt rI4)
  clear T3 hP4 row4 rI4 rI fz HT2 HR1 HR2
  have H := Lib.hid (rpop_at T4.out.at_ ht)
  clear ht
  go_wp2_with fail
  (with_reducible refine H.out.mono ?_)
  rintro e w5 ⟨u5, rfl, q⟩
  have T5 := Lib.hid (T4.out.trans q)
  have NU := Lib.hid (show ob u5 ≠ some w1.heap.size from fun e => by
    rcases q.new _ e with e | e
    · exact (AP.out _ (show w.heap.size ≤ w1.heap.size by have := Y.out; omega)).2.2 e
    · have := S4.out; have := Y.out; omega)
  have R25 := Lib.hid (q.row R2.out (AP.out _ (show w.heap.size ≤ w1.heap.size by have := Y.out; omega)).1 (AP.out _ (show w.heap.size ≤ w1.heap.size by have := Y.out; omega)).2.1 (AP.out _ (show w.heap.size ≤ w1.heap.size by have := Y.out; omega)).2.2)
  clear q i0 i1
  obtain ⟨q0, q1, q2, q3, q4, q5, q6⟩ := row7 R25.out
  have z_ := fun k => (R25.out).free k
  have z0 := z_ 0
  have z1 := z_ 1
  have z2 := z_ 2
  have z3 := z_ 3
  have z4 := z_ 4
  have z5 := z_ 5
  have z6 := z_ 6
  have pz := put7 R25.out rfl (.bool false) (.int .i64 (0)) (.slice none 0 0) (.bool true) (.int .i64 (lastN f.stack)) (.bool false) (.int .i64 (0))
  have EE := Lib.hid pz.1
  have HR := Lib.hid (rins_end (d := ⟨false, 0, [], true, lastN f.stack, false, 0⟩) (va := .slice none 0 0) T5.out (innI_nil _ _) (fun _ e => by cases e) pz.2 (show w.heap.size ≤ w1.heap.size by have := Y.out; omega) (AP.out _ (show w.heap.size ≤ w1.heap.size by have := Y.out; omega)).1 (AP.out _ (show w.heap.size ≤ w1.heap.size by have := Y.out; omega)).2.1 NU.out (fun e => by cases e))
  clear z_ pz
  go_wp2_with fail
  exact bodyPost_ret (v := .agg (didC (⟨false, 0, [], true, lastN f.stack, false, 0⟩) (.slice none 0 0)).toArray) (by simp [results, Tryz.results97, go_sem, didC, EE.out.1, EE.out.2.1, EE.out.2.2.1, EE.out.2.2.2.1, EE.out.2.2.2.2.1, EE.out.2.2.2.2.2.1, EE.out.2.2.2.2.2.2]) rfl HR.out
set_option maxRecDepth 100000 in
set_option maxHeartbeats 8000000 in
theorem rins12 {w W0 : World} {base g off cp : Nat} {p : List Fn} {Ap : Option Addr} {f : Frm} {v1 v2 : Value} (h : FAt w base g off f v1 v2) (hb : base ≤ w.heap.size) (hW : Below W0.heap.size W0 w) (hr : ReadsF W0 Ap p)
    {fn pc : Nat} (efn : f.fn = fn) (epc : f.pc = pc) (hfn : fn < p.length) (hpc : pc < p[fn].code.length) {a : Int} (hi : p[fn].code[pc] = ⟨12, a⟩) (d : Int) (h64 : p[fn].code.length ≤ 1000) :
    Calls Tryz.prog 97 #[.agg #[.slice Ap p.length cp], .pointer (some ⟨g, off, none⟩), .int .i64 d] w (RInsE (⟨f.fn, a, f.locals, f.stack⟩) (⟨false, 0, [], false, 0, false, 0⟩) base g off v1 v2 w) := by
  obtain ⟨w1, hw1⟩ : ∃ w1, w.alloc (.cells #[.slice Ap p.length cp] 24) = w1 := ⟨_, rfl⟩
  have b1 : Below w.heap.size w w1 := hw1 ▸ below_alloc (Below.refl _ _) _
  have b2 : Below w1.heap.size w1 (w1.alloc (.cells #[.bool false, .int .i64 0, .slice none 0 0, .bool false, .int .i64 0, .bool false, .int .i64 0] 151)) := below_alloc (Below.refl _ _) _
  have b02 := below_trans b1 b2
  have y1 : w1.heap.size = w.heap.size + 1 := by rw [← hw1]; simp
  have r1 : RowAt 24 w.heap.size [.slice Ap p.length cp] (w1.alloc (.cells #[.bool false, .int .i64 0, .slice none 0 0, .bool false, .int .i64 0, .bool false, .int .i64 0] 151)) := (hw1 ▸ RowAt.new _ _ w : RowAt 24 w.heap.size [.slice Ap p.length cp] w1).below b2
  have r2 : RowAt 151 w1.heap.size [.bool false, .int .i64 0, .slice none 0 0, .bool false, .int .i64 0, .bool false, .int .i64 0] (w1.alloc (.cells #[.bool false, .int .i64 0, .slice none 0 0, .bool false, .int .i64 0, .bool false, .int .i64 0] 151)) := RowAt.new _ _ w1
  have hpw : wrap64 ((pc : Int) + 1) = pc + 1 := by unfold wrap64; omega
  have hF := h.below b02
  have hW2 := below_trans hW b02
  obtain ⟨ad, Ac, cc, rfl, c2, c0, c1, _⟩ := code_at hr hW2 hfn hpc
  have kP := row_cell r1
  obtain ⟨m0, m1, m2, m3, fz⟩ := hF.cells
  rw [efn] at m0
  rw [epc] at m1
  rw [hi] at c0 c1
  simp only at c0 c1
  have hpl := hr.1
  have HR1 := Lib.hid r1
  have HR2 := Lib.hid r2
  have HT2 := Lib.hid (FTurn.of_below h b02)
  have HW2 := Lib.hid hW2
  have AP := Lib.hid (fun (x : Nat) (hx : w.heap.size ≤ x) => h.apart hx)
  have Y := Lib.hid (And.intro y1 (show (w1.alloc (.cells #[.bool false, .int .i64 0, .slice none 0 0, .bool false, .int .i64 0, .bool false, .int .i64 0] 151)).heap.size = w.heap.size + 2 by simp [y1]))
  have HB := Lib.hid hb
  have HPR := Lib.hid hr
  have HW := Lib.hid hW
  have HV2 := Lib.hid h.lo2
  clear y1 h hb hW hr hi r1 r2 hF hW2 fz m2 m3 b1 b2 b02 efn
  go_enter Tryz.func97, Tryz.ntmps97
  go_upto_region 1 with fail
  generalize hw2 : (w1.alloc (.cells #[.bool false, .int .i64 0, .slice none 0 0, .bool false, .int .i64 0, .bool false, .int .i64 0] 151)) = w2 at *
  clear hw1 hw2
  have b3 := below_alloc (Below.refl w2.heap.size w2) (.cells #[.int .i64 0, .int .i64 0] 62)
  have kP3 := cell_below b3 kP
  have c23 := cell_below b3 c2
  have c03 := cell_below b3 c0
  have c13 := cell_below b3 c1
  have m03 := cell_below b3 m0
  have m13 := cell_below b3 m1
  clear b3
  go_region
  clear kP3 c23 c03 c13 m03 m13 kP c0 c1 c2 m0 m1
  have b3 : Below w2.heap.size w2 (w2.alloc (.cells #[.int .i64 12, .int .i64 a] 62)).drew := below_drw (below_alloc (Below.refl w2.heap.size w2) _)
  have rI : RowAt 62 w2.heap.size [.int .i64 12, .int .i64 a] (w2.alloc (.cells #[.int .i64 12, .int .i64 a] 62)).drew := RowAt.new _ _ w2
  generalize hw3 : (w2.alloc (.cells #[.int .i64 12, .int .i64 a] 62)).drew = w3 at *
  have T3 := HT2.out.after b3
  obtain ⟨_, m1, _, _, fz⟩ := T3.at_.cells
  rw [epc] at m1
  have hz1 := fz (off + 1)
  obtain ⟨w4, hw4⟩ : ∃ w4, w3.setCell ⟨g, off + 1, none⟩ (.int .i64 ((pc : Int) + 1)) = w4 := ⟨_, rfl⟩
  have hP4 := T3.at_.put_pc ((pc : Int) + 1)
  rw [hw4] at hP4
  have T4 := Lib.hid (T3.trans hP4)
  have row4 : ∀ {t b : Nat} {cs : List Value}, RowAt t b cs w2 → w.heap.size ≤ b → RowAt t b cs w4 := fun hr hx => hP4.row (hr.below b3) (AP.out _ hx).1 (AP.out _ hx).2.1 (AP.out _ hx).2.2
  have rI4 := hP4.row rI (AP.out _ (show w.heap.size ≤ w2.heap.size by have := Y.out; omega)).1 (AP.out _ (show w.heap.size ≤ w2.heap.size by have := Y.out; omega)).2.1 (AP.out _ (show w.heap.size ≤ w2.heap.size by have := Y.out; omega)).2.2
  have R1 := Lib.hid (row4 HR1.out (Nat.le_refl _))
  have R2 := Lib.hid (row4 HR2.out (by have := Y.out; omega))
  have RI := Lib.hid rI4
  have i0 := rI4.cell (k := 0) (by simp)
  have i1 := rI4.cell (k := 1) (by simp)
  simp only [List.getElem_cons_zero, List.getElem_cons_succ] at i0 i1
  have S4 := Lib.hid (show w2.heap.size < w4.heap.size from blk_lt rI4)
  clear T3 hP4 row4 rI4 rI fz HT2 HR1 HR2
  obtain ⟨_, n1, _, _, fz4⟩ := T4.out.at_.cells
  have hz4 := fz4 (off + 1)
  obtain ⟨w5, hw5⟩ : ∃ w5, w4.setCell ⟨g, off + 1, none⟩ (.int .i64 a) = w5 := ⟨_, rfl⟩
  have hP5 := T4.out.at_.put_pc a
  rw [hw5] at hP5
  have T5 := Lib.hid (T4.out.trans hP5)
  have R25 := Lib.hid (hP5.row R2.out (AP.out _ (show w.heap.size ≤ w1.heap.size by have := Y.out; omega)).1 (AP.out _ (show w.heap.size ≤ w1.heap.size by have := Y.out; omega)).2.1 (AP.out _ (show w.heap.size ≤ w1.heap.size by have := Y.out; omega)).2.2)
  clear hP5 fz4
  obtain ⟨q0, q1, q2, q3, q4, q5, q6⟩ := row7 R25.out
  have z_ := fun k => (R25.out).free k
  have z0 := z_ 0
  have z1 := z_ 1
  have z2 := z_ 2
  have z3 := z_ 3
  have z4 := z_ 4
  have z5 := z_ 5
  have z6 := z_ 6
  have pz := put7 R25.out rfl (.bool false) (.int .i64 (0)) (.slice none 0 0) (.bool false) (.int .i64 (0)) (.bool false) (.int .i64 (0))
  have EE := Lib.hid pz.1
  have HR := Lib.hid (rins_end (d := ⟨false, 0, [], false, 0, false, 0⟩) (va := .slice none 0 0) T5.out (innI_nil _ _) (fun _ e => by cases e) pz.2 (show w.heap.size ≤ w1.heap.size by have := Y.out; omega) (AP.out _ (show w.heap.size ≤ w1.heap.size by have := Y.out; omega)).1 (AP.out _ (show w.heap.size ≤ w1.heap.size by have := Y.out; omega)).2.1 (AP.out _ (show w.heap.size ≤ w1.heap.size by have := Y.out; omega)).2.2 (fun e => by cases e))
  clear z_ pz
  go_wp2_with fail
  exact bodyPost_ret (v := .agg (didC (⟨false, 0, [], false, 0, false, 0⟩) (.slice none 0 0)).toArray) (by simp [results, Tryz.results97, go_sem, didC, EE.out.1, EE.out.2.1, EE.out.2.2.1, EE.out.2.2.2.1, EE.out.2.2.2.2.1, EE.out.2.2.2.2.2.1, EE.out.2.2.2.2.2.2]) rfl HR.out
set_option maxRecDepth 100000 in
set_option maxHeartbeats 8000000 in
theorem rins13y {w W0 : World} {base g off cp : Nat} {p : List Fn} {Ap : Option Addr} {f : Frm} {v1 v2 : Value} (h : FAt w base g off f v1 v2) (hb : base ≤ w.heap.size) (hW : Below W0.heap.size W0 w) (hr : ReadsF W0 Ap p)
    {fn pc : Nat} (efn : f.fn = fn) (epc : f.pc = pc) (hfn : fn < p.length) (hpc : pc < p[fn].code.length) {a : Int} (hi : p[fn].code[pc] = ⟨13, a⟩) (d : Int) (h64 : p[fn].code.length ≤ 1000) (ht : 0 < f.stack.length) (hv : lastN f.stack = 0) :
    Calls Tryz.prog 97 #[.agg #[.slice Ap p.length cp], .pointer (some ⟨g, off, none⟩), .int .i64 d] w (RInsE (⟨f.fn, a, f.locals, f.stack.dropLast⟩) (⟨false, 0, [], false, 0, false, 0⟩) base g off v1 v2 w) := by
  obtain ⟨w1, hw1⟩ : ∃ w1, w.alloc (.cells #[.slice Ap p.length cp] 24) = w1 := ⟨_, rfl⟩
  have b1 : Below w.heap.size w w1 := hw1 ▸ below_alloc (Below.refl _ _) _
  have b2 : Below w1.heap.size w1 (w1.alloc (.cells #[.bool false, .int .i64 0, .slice none 0 0, .bool false, .int .i64 0, .bool false, .int .i64 0] 151)) := below_alloc (Below.refl _ _) _
  have b02 := below_trans b1 b2
  have y1 : w1.heap.size = w.heap.size + 1 := by rw [← hw1]; simp
  have r1 : RowAt 24 w.heap.size [.slice Ap p.length cp] (w1.alloc (.cells #[.bool false, .int .i64 0, .slice none 0 0, .bool false, .int .i64 0, .bool false, .int .i64 0] 151)) := (hw1 ▸ RowAt.new _ _ w : RowAt 24 w.heap.size [.slice Ap p.length cp] w1).below b2
  have r2 : RowAt 151 w1.heap.size [.bool false, .int .i64 0, .slice none 0 0, .bool false, .int .i64 0, .bool false, .int .i64 0] (w1.alloc (.cells #[.bool false, .int .i64 0, .slice none 0 0, .bool false, .int .i64 0, .bool false, .int .i64 0] 151)) := RowAt.new _ _ w1
  have hpw : wrap64 ((pc : Int) + 1) = pc + 1 := by unfold wrap64; omega
  have hF := h.below b02
  have hW2 := below_trans hW b02
  obtain ⟨ad, Ac, cc, rfl, c2, c0, c1, _⟩ := code_at hr hW2 hfn hpc
  have kP := row_cell r1
  obtain ⟨m0, m1, m2, m3, fz⟩ := hF.cells
  rw [efn] at m0
  rw [epc] at m1
  rw [hi] at c0 c1
  simp only at c0 c1
  have hpl := hr.1
  have HR1 := Lib.hid r1
  have HR2 := Lib.hid r2
  have HT2 := Lib.hid (FTurn.of_below h b02)
  have HW2 := Lib.hid hW2
  have AP := Lib.hid (fun (x : Nat) (hx : w.heap.size ≤ x) => h.apart hx)
  have Y := Lib.hid (And.intro y1 (show (w1.alloc (.cells #[.bool false, .int .i64 0, .slice none 0 0, .bool false, .int .i64 0, .bool false, .int .i64 0] 151)).heap.size = w.heap.size + 2 by simp [y1]))
  have HB := Lib.hid hb
  have HPR := Lib.hid hr
  have HW := Lib.hid hW
  have HV2 := Lib.hid h.lo2
  clear y1 h hb hW hr hi r1 r2 hF hW2 fz m2 m3 b1 b2 b02 efn
  go_enter Tryz.func97, Tryz.ntmps97
  go_upto_region 1 with fail
  generalize hw2 : (w1.alloc (.cells #[.bool false, .int .i64 0, .slice none 0 0, .bool false, .int .i64 0, .bool false, .int .i64 0] 151)) = w2 at *
  clear hw1 hw2
  have b3 := below_alloc (Below.refl w2.heap.size w2) (.cells #[.int .i64 0, .int .i64 0] 62)
  have kP3 := cell_below b3 kP
  have c23 := cell_below b3 c2
  have c03 := cell_below b3 c0
  have c13 := cell_below b3 c1
  have m03 := cell_below b3 m0
  have m13 := cell_below b3 m1
  clear b3
  go_region
  clear kP3 c23 c03 c13 m03 m13 kP c0 c1 c2 m0 m1
  have b3 : Below w2.heap.size w2 (w2.alloc (.cells #[.int .i64 13, .int .i64 a] 62)).drew := below_drw (below_alloc (Below.refl w2.heap.size w2) _)
  have rI : RowAt 62 w2.heap.size [.int .i64 13, .int .i64 a] (w2.alloc (.cells #[.int .i64 13, .int .i64 a] 62)).drew := RowAt.new _ _ w2
  generalize hw3 : (w2.alloc (.cells #[.int .i64 13, .int .i64 a] 62)).drew = w3 at *
  have T3 := HT2.out.after b3
  obtain ⟨_, m1, _, _, fz⟩ := T3.at_.cells
  rw [epc] at m1
  have hz1 := fz (off + 1)
  obtain ⟨w4, hw4⟩ : ∃ w4, w3.setCell ⟨g, off + 1, none⟩ (.int .i64 ((pc : Int) + 1)) = w4 := ⟨_, rfl⟩
  have hP4 := T3.at_.put_pc ((pc : Int) + 1)
  rw [hw4] at hP4
  have T4 := Lib.hid (T3.trans hP4)
  have row4 : ∀ {t b : Nat} {cs : List Value}, RowAt t b cs w2 → w.heap.size ≤ b → RowAt t b cs w4 := fun hr hx => hP4.row (hr.below b3) (AP.out _ hx).1 (AP.out _ hx).2.1 (AP.out _ hx).2.2
  have rI4 := hP4.row rI (AP.out _ (show w.heap.size ≤ w2.heap.size by have := Y.out; omega)).1 (AP.out _ (show w.heap.size ≤ w2.heap.size by have := Y.out; omega)).2.1 (AP.out _ (show w.heap.size ≤ w2.heap.size by have := Y.out; omega)).2.2
  have R1 := Lib.hid (row4 HR1.out (Nat.le_refl _))
  have R2 := Lib.hid (row4 HR2.out (by have := Y.out; omega))
  have RI := Lib.hid rI4
  have i0 := rI4.cell (k := 0) (by simp)
  have i1 := rI4.cell (k := 1) (by simp)
  simp only [List.getElem_cons_zero, List.getElem_cons_succ] at i0 i1
  have S4 := Lib.hid (show w2.heap.size < w4.heap.size from blk_lt rI4)
  clear T3 hP4 row4 rI4 rI fz HT2 HR1 HR2
  have hvb : (lastN f.stack == 0) = true := by simpa using hv
  clear hv
  have H := Lib.hid (rpop_at T4.out.at_ ht)
  clear ht
  go_wp2_with fail
  (with_reducible refine H.out.mono ?_)
  rintro e w5 ⟨u5, rfl, q⟩
  have T5 := Lib.hid (T4.out.trans q)
  have NU := Lib.hid (show ob u5 ≠ some w1.heap.size from fun e => by
    rcases q.new _ e with e | e
    · exact (AP.out _ (show w.heap.size ≤ w1.heap.size by have := Y.out; omega)).2.2 e
    · have := S4.out; have := Y.out; omega)
  have R25 := Lib.hid (q.row R2.out (AP.out _ (show w.heap.size ≤ w1.heap.size by have := Y.out; omega)).1 (AP.out _ (show w.heap.size ≤ w1.heap.size by have := Y.out; omega)).2.1 (AP.out _ (show w.heap.size ≤ w1.heap.size by have := Y.out; omega)).2.2)
  have RI5 := Lib.hid (q.row RI.out (AP.out _ (show w.heap.size ≤ w2.heap.size by have := Y.out; omega)).1 (AP.out _ (show w.heap.size ≤ w2.heap.size by have := Y.out; omega)).2.1 (AP.out _ (show w.heap.size ≤ w2.heap.size by have := Y.out; omega)).2.2)
  have j1 := RI5.out.cell (k := 1) (by simp)
  simp only [List.getElem_cons_zero, List.getElem_cons_succ] at j1
  clear q i0 i1
  obtain ⟨_, n1, _, _, fz4⟩ := T5.out.at_.cells
  have hz4 := fz4 (off + 1)
  obtain ⟨w6, hw6⟩ : ∃ w6, w5.setCell ⟨g, off + 1, none⟩ (.int .i64 a) = w6 := ⟨_, rfl⟩
  have hP5 := T5.out.at_.put_pc a
  rw [hw6] at hP5
  have T6 := Lib.hid (T5.out.trans hP5)
  have R26 := Lib.hid (hP5.row R25.out (AP.out _ (show w.heap.size ≤ w1.heap.size by have := Y.out; omega)).1 (AP.out _ (show w.heap.size ≤ w1.heap.size by have := Y.out; omega)).2.1 NU.out)
  clear hP5 fz4
  obtain ⟨q0, q1, q2, q3, q4, q5, q6⟩ := row7 R26.out
  have z_ := fun k => (R26.out).free k
  have z0 := z_ 0
  have z1 := z_ 1
  have z2 := z_ 2
  have z3 := z_ 3
  have z4 := z_ 4
  have z5 := z_ 5
  have z6 := z_ 6
  have pz := put7 R26.out rfl (.bool false) (.int .i64 (0)) (.slice none 0 0) (.bool false) (.int .i64 (0)) (.bool false) (.int .i64 (0))
  have EE := Lib.hid pz.1
  have HR := Lib.hid (rins_end (d := ⟨false, 0, [], false, 0, false, 0⟩) (va := .slice none 0 0) T6.out (innI_nil _ _) (fun _ e => by cases e) pz.2 (show w.heap.size ≤ w1.heap.size by have := Y.out; omega) (AP.out _ (show w.heap.size ≤ w1.heap.size by have := Y.out; omega)).1 (AP.out _ (show w.heap.size ≤ w1.heap.size by have := Y.out; omega)).2.1 NU.out (fun e => by cases e))
  clear z_ pz
  go_wp2_with fail
  exact bodyPost_ret (v := .agg (didC (⟨false, 0, [], false, 0, false, 0⟩) (.slice none 0 0)).toArray) (by simp [results, Tryz.results97, go_sem, didC, EE.out.1, EE.out.2.1, EE.out.2.2.1, EE.out.2.2.2.1, EE.out.2.2.2.2.1, EE.out.2.2.2.2.2.1, EE.out.2.2.2.2.2.2]) rfl HR.out
set_option maxRecDepth 100000 in
set_option maxHeartbeats 8000000 in
theorem rins13n {w W0 : World} {base g off cp : Nat} {p : List Fn} {Ap : Option Addr} {f : Frm} {v1 v2 : Value} (h : FAt w base g off f v1 v2) (hb : base ≤ w.heap.size) (hW : Below W0.heap.size W0 w) (hr : ReadsF W0 Ap p)
    {fn pc : Nat} (efn : f.fn = fn) (epc : f.pc = pc) (hfn : fn < p.length) (hpc : pc < p[fn].code.length) {a : Int} (hi : p[fn].code[pc] = ⟨13, a⟩) (d : Int) (h64 : p[fn].code.length ≤ 1000) (ht : 0 < f.stack.length) (hv : lastN f.stack ≠ 0) :
    Calls Tryz.prog 97 #[.agg #[.slice Ap p.length cp], .pointer (some ⟨g, off, none⟩), .int .i64 d] w (RInsE (⟨f.fn, (pc : Int) + 1, f.locals, f.stack.dropLast⟩) (⟨false, 0, [], false, 0, false, 0⟩) base g off v1 v2 w) := by
  obtain ⟨w1, hw1⟩ : ∃ w1, w.alloc (.cells #[.slice Ap p.length cp] 24) = w1 := ⟨_, rfl⟩
  have b1 : Below w.heap.size w w1 := hw1 ▸ below_alloc (Below.refl _ _) _
  have b2 : Below w1.heap.size w1 (w1.alloc (.cells #[.bool false, .int .i64 0, .slice none 0 0, .bool false, .int .i64 0, .bool false, .int .i64 0] 151)) := below_alloc (Below.refl _ _) _
  have b02 := below_trans b1 b2
  have y1 : w1.heap.size = w.heap.size + 1 := by rw [← hw1]; simp
  have r1 : RowAt 24 w.heap.size [.slice Ap p.length cp] (w1.alloc (.cells #[.bool false, .int .i64 0, .slice none 0 0, .bool false, .int .i64 0, .bool false, .int .i64 0] 151)) := (hw1 ▸ RowAt.new _ _ w : RowAt 24 w.heap.size [.slice Ap p.length cp] w1).below b2
  have r2 : RowAt 151 w1.heap.size [.bool false, .int .i64 0, .slice none 0 0, .bool false, .int .i64 0, .bool false, .int .i64 0] (w1.alloc (.cells #[.bool false, .int .i64 0, .slice none 0 0, .bool false, .int .i64 0, .bool false, .int .i64 0] 151)) := RowAt.new _ _ w1
  have hpw : wrap64 ((pc : Int) + 1) = pc + 1 := by unfold wrap64; omega
  have hF := h.below b02
  have hW2 := below_trans hW b02
  obtain ⟨ad, Ac, cc, rfl, c2, c0, c1, _⟩ := code_at hr hW2 hfn hpc
  have kP := row_cell r1
  obtain ⟨m0, m1, m2, m3, fz⟩ := hF.cells
  rw [efn] at m0
  rw [epc] at m1
  rw [hi] at c0 c1
  simp only at c0 c1
  have hpl := hr.1
  have HR1 := Lib.hid r1
  have HR2 := Lib.hid r2
  have HT2 := Lib.hid (FTurn.of_below h b02)
  have HW2 := Lib.hid hW2
  have AP := Lib.hid (fun (x : Nat) (hx : w.heap.size ≤ x) => h.apart hx)
  have Y := Lib.hid (And.intro y1 (show (w1.alloc (.cells #[.bool false, .int .i64 0, .slice none 0 0, .bool false, .int .i64 0, .bool false, .int .i64 0] 151)).heap.size = w.heap.size + 2 by simp [y1]))
  have HB := Lib.hid hb
  have HPR := Lib.hid hr
  have HW := Lib.hid hW
  have HV2 := Lib.hid h.lo2
  clear y1 h hb hW hr hi r1 r2 hF hW2 fz m2 m3 b1 b2 b02 efn
  go_enter Tryz.func97, Tryz.ntmps97
  go_upto_region 1 with fail
  generalize hw2 : (w1.alloc (.cells #[.bool false, .int .i64 0, .slice none 0 0, .bool false, .int .i64 0, .bool false, .int .i64 0] 151)) = w2 at *
  clear hw1 hw2
  have b3 := below_alloc (Below.refl w2.heap.size w2) (.cells #[.int .i64 0, .int .i64 0] 62)
  have kP3 := cell_below b3 kP
  have c23 := cell_below b3 c2
  have c03 := cell_below b3 c0
  have c13 := cell_below b3 c1
  have m03 := cell_below b3 m0
  have m13 := cell_below b3 m1
  clear b3
  go_region
  clear kP3 c23 c03 c13 m03 m13 kP c0 c1 c2 m0 m1
  have b3 : Below w2.heap.size w2 (w2.alloc (.cells #[.int .i64 13, .int .i64 a] 62)).drew := below_drw (below_alloc (Below.refl w2.heap.size w2) _)
  have rI : RowAt 62 w2.heap.size [.int .i64 13, .int .i64 a] (w2.alloc (.cells #[.int .i64 13, .int .i64 a] 62)).drew := RowAt.new _ _ w2
  generalize hw3 : (w2.alloc (.cells #[.int .i64 13, .int .i64 a] 62)).drew = w3 at *
  have T3 := HT2.out.after b3
  obtain ⟨_, m1, _, _, fz⟩ := T3.at_.cells
  rw [epc] at m1
  have hz1 := fz (off + 1)
  obtain ⟨w4, hw4⟩ : ∃ w4, w3.setCell ⟨g, off + 1, none⟩ (.int .i64 ((pc : Int) + 1)) = w4 := ⟨_, rfl⟩
  have hP4 := T3.at_.put_pc ((pc : Int) + 1)
  rw [hw4] at hP4
  have T4 := Lib.hid (T3.trans hP4)
  have row4 : ∀ {t b : Nat} {cs : List Value}, RowAt t b cs w2 → w.heap.size ≤ b → RowAt t b cs w4 := fun hr hx => hP4.row (hr.below b3) (AP.out _ hx).1 (AP.out _ hx).2.1 (AP.out _ hx).2.2
  have rI4 := hP4.row rI (AP.out _ (show w.heap.size ≤ w2.heap.size by have := Y.out; omega)).1 (AP.out _ (show w.heap.size ≤ w2.heap.size by have := Y.out; omega)).2.1 (AP.out _ (show w.heap.size ≤ w2.heap.size by have := Y.out; omega)).2.2
  have R1 := Lib.hid (row4 HR1.out (Nat.le_refl _))
  have R2 := Lib.hid (row4 HR2.out (by have := Y.out; omega))
  have RI := Lib.hid rI4
  have i0 := rI4.cell (k := 0) (by simp)
  have i1 := rI4.cell (k := 1) (by simp)
  simp only [List.getElem_cons_zero, List.getElem_cons_succ] at i0 i1
  have S4 := Lib.hid (show w2.heap.size < w4.heap.size from blk_lt rI4)
  clear T3 hP4 row4 rI4 rI fz HT2 HR1 HR2
  have hvb : (lastN f.stack == 0) = false := by simpa using hv
  clear hv
  have H := Lib.hid (rpop_at T4.out.at_ ht)
  clear ht
  go_wp2_with fail
  (with_reducible refine H.out.mono ?_)
  rintro e w5 ⟨u5, rfl, q⟩
  have T5 := Lib.hid (T4.out.trans q)
  have NU := Lib.hid (show ob u5 ≠ some w1.heap.size from fun e => by
    rcases q.new _ e with e | e
    · exact (AP.out _ (show w.heap.size ≤ w1.heap.size by have := Y.out; omega)).2.2 e
    · have := S4.out; have := Y.out; omega)
  have R25 := Lib.hid (q.row R2.out (AP.out _ (show w.heap.size ≤ w1.heap.size by have := Y.out; omega)).1 (AP.out _ (show w.heap.size ≤ w1.heap.size by have := Y.out; omega)).2.1 (AP.out _ (show w.heap.size ≤ w1.heap.size by have := Y.out; omega)).2.2)
  clear q i0 i1
  obtain ⟨q0, q1, q2, q3, q4, q5, q6⟩ := row7 R25.out
  have z_ := fun k => (R25.out).free k
  have z0 := z_ 0
  have z1 := z_ 1
  have z2 := z_ 2
  have z3 := z_ 3
  have z4 := z_ 4
  have z5 := z_ 5
  have z6 := z_ 6
  have pz := put7 R25.out rfl (.bool false) (.int .i64 (0)) (.slice none 0 0) (.bool false) (.int .i64 (0)) (.bool false) (.int .i64 (0))
  have EE := Lib.hid pz.1
  have HR := Lib.hid (rins_end (d := ⟨false, 0, [], false, 0, false, 0⟩) (va := .slice none 0 0) T5.out (innI_nil _ _) (fun _ e => by cases e) pz.2 (show w.heap.size ≤ w1.heap.size by have := Y.out; omega) (AP.out _ (show w.heap.size ≤ w1.heap.size by have := Y.out; omega)).1 (AP.out _ (show w.heap.size ≤ w1.heap.size by have := Y.out; omega)).2.1 NU.out (fun e => by cases e))
  clear z_ pz
  go_wp2_with fail
  exact bodyPost_ret (v := .agg (didC (⟨false, 0, [], false, 0, false, 0⟩) (.slice none 0 0)).toArray) (by simp [results, Tryz.results97, go_sem, didC, EE.out.1, EE.out.2.1, EE.out.2.2.1, EE.out.2.2.2.1, EE.out.2.2.2.2.1, EE.out.2.2.2.2.2.1, EE.out.2.2.2.2.2.2]) rfl HR.out
set_option maxRecDepth 100000 in
set_option maxHeartbeats 8000000 in
theorem rins1 {w W0 : World} {base g off cp : Nat} {p : List Fn} {Ap : Option Addr} {f : Frm} {v1 v2 : Value} (h : FAt w base g off f v1 v2) (hb : base ≤ w.heap.size) (hW : Below W0.heap.size W0 w) (hr : ReadsF W0 Ap p)
    {fn pc : Nat} (efn : f.fn = fn) (epc : f.pc = pc) (hfn : fn < p.length) (hpc : pc < p[fn].code.length) {j : Nat} (hi : p[fn].code[pc] = ⟨1, j⟩) (d : Int) (h64 : p[fn].code.length ≤ 1000) (hs : f.stack.length ≤ 1000) (hj : j < f.locals.length) :
    Calls Tryz.prog 97 #[.agg #[.slice Ap p.length cp], .pointer (some ⟨g, off, none⟩), .int .i64 d] w (RInsE (⟨f.fn, (pc : Int) + 1, f.locals, f.stack ++ [f.locals[j]]⟩) (⟨false, 0, [], false, 0, false, 0⟩) base g off v1 v2 w) := by
  obtain ⟨w1, hw1⟩ : ∃ w1, w.alloc (.cells #[.slice Ap p.length cp] 24) = w1 := ⟨_, rfl⟩
  have b1 : Below w.heap.size w w1 := hw1 ▸ below_alloc (Below.refl _ _) _
  have b2 : Below w1.heap.size w1 (w1.alloc (.cells #[.bool false, .int .i64 0, .slice none 0 0, .bool false, .int .i64 0, .bool false, .int .i64 0] 151)) := below_alloc (Below.refl _ _) _
  have b02 := below_trans b1 b2
  have y1 : w1.heap.size = w.heap.size + 1 := by rw [← hw1]; simp
  have r1 : RowAt 24 w.heap.size [.slice Ap p.length cp] (w1.alloc (.cells #[.bool false, .int .i64 0, .slice none 0 0, .bool false, .int .i64 0, .bool false, .int .i64 0] 151)) := (hw1 ▸ RowAt.new _ _ w : RowAt 24 w.heap.size [.slice Ap p.length cp] w1).below b2
  have r2 : RowAt 151 w1.heap.size [.bool false, .int .i64 0, .slice none 0 0, .bool false, .int .i64 0, .bool false, .int .i64 0] (w1.alloc (.cells #[.bool false, .int .i64 0, .slice none 0 0, .bool false, .int .i64 0, .bool false, .int .i64 0] 151)) := RowAt.new _ _ w1
  have hpw : wrap64 ((pc : Int) + 1) = pc + 1 := by unfold wrap64; omega
  have hF := h.below b02
  have hW2 := below_trans hW b02
  obtain ⟨ad, Ac, cc, rfl, c2, c0, c1, _⟩ := code_at hr hW2 hfn hpc
  have kP := row_cell r1
  obtain ⟨m0, m1, m2, m3, fz⟩ := hF.cells
  rw [efn] at m0
  rw [epc] at m1
  rw [hi] at c0 c1
  simp only at c0 c1
  have hpl := hr.1
  have HR1 := Lib.hid r1
  have HR2 := Lib.hid r2
  have HT2 := Lib.hid (FTurn.of_below h b02)
  have HW2 := Lib.hid hW2
  have AP := Lib.hid (fun (x : Nat) (hx : w.heap.size ≤ x) => h.apart hx)
  have Y := Lib.hid (And.intro y1 (show (w1.alloc (.cells #[.bool false, .int .i64 0, .slice none 0 0, .bool false, .int .i64 0, .bool false, .int .i64 0] 151)).heap.size = w.heap.size + 2 by simp [y1]))
  have HB := Lib.hid hb
  have HPR := Lib.hid hr
  have HW := Lib.hid hW
  have HV2 := Lib.hid h.lo2
  clear y1 h hb hW hr hi r1 r2 hF hW2 fz m2 m3 b1 b2 b02 efn
  go_enter Tryz.func97, Tryz.ntmps97
  go_upto_region 1 with fail
  generalize hw2 : (w1.alloc (.cells #[.bool false, .int .i64 0, .slice none 0 0, .bool false, .int .i64 0, .bool false, .int .i64 0] 151)) = w2 at *
  clear hw1 hw2
  have b3 := below_alloc (Below.refl w2.heap.size w2) (.cells #[.int .i64 0, .int .i64 0] 62)
  have kP3 := cell_below b3 kP
  have c23 := cell_below b3 c2
  have c03 := cell_below b3 c0
  have c13 := cell_below b3 c1
  have m03 := cell_below b3 m0
  have m13 := cell_below b3 m1
  clear b3
  go_region
  clear kP3 c23 c03 c13 m03 m13 kP c0 c1 c2 m0 m1
  have b3 : Below w2.heap.size w2 (w2.alloc (.cells #[.int .i64 1, .int .i64 j] 62)).drew := below_drw (below_alloc (Below.refl w2.heap.size w2) _)
  have rI : RowAt 62 w2.heap.size [.int .i64 1, .int .i64 j] (w2.alloc (.cells #[.int .i64 1, .int .i64 j] 62)).drew := RowAt.new _ _ w2
  generalize hw3 : (w2.alloc (.cells #[.int .i64 1, .int .i64 j] 62)).drew = w3 at *
  have T3 := HT2.out.after b3
  obtain ⟨_, m1, _, _, fz⟩ := T3.at_.cells
  rw [epc] at m1
  have hz1 := fz (off + 1)
  obtain ⟨w4, hw4⟩ : ∃ w4, w3.setCell ⟨g, off + 1, none⟩ (.int .i64 ((pc : Int) + 1)) = w4 := ⟨_, rfl⟩
  have hP4 := T3.at_.put_pc ((pc : Int) + 1)
  rw [hw4] at hP4
  have T4 := Lib.hid (T3.trans hP4)
  have row4 : ∀ {t b : Nat} {cs : List Value}, RowAt t b cs w2 → w.heap.size ≤ b → RowAt t b cs w4 := fun hr hx => hP4.row (hr.below b3) (AP.out _ hx).1 (AP.out _ hx).2.1 (AP.out _ hx).2.2
  have rI4 := hP4.row rI (AP.out _ (show w.heap.size ≤ w2.heap.size by have := Y.out; omega)).1 (AP.out _ (show w.heap.size ≤ w2.heap.size by have := Y.out; omega)).2.1 (AP.out _ (show w.heap.size ≤ w2.heap.size by have := Y.out; omega)).2.2
  have R1 := Lib.hid (row4 HR1.out (Nat.le_refl _))
  have R2 := Lib.hid (row4 HR2.out (by have := Y.out; omega))
  have RI := Lib.hid rI4
  have i0 := rI4.cell (k := 0) (by simp)
  have i1 := rI4.cell (k := 1) (by simp)
  simp only [List.getElem_cons_zero, List.getElem_cons_succ] at i0 i1
  have S4 := Lib.hid (show w2.heap.size < w4.heap.size from blk_lt rI4)
  clear T3 hP4 row4 rI4 rI fz HT2 HR1 HR2
  have BD := Lib.hid (FTurn.of_below T4.out.at_ (below_drw (Below.refl w4.heap.size w4)))
  have H := Lib.hid (rpush_at BD.out.at_ (show base ≤ _ from Nat.le_trans HB.out T4.out.chg.size) hs f.locals[j])
  obtain ⟨m0, m1', m2, m3, fz'⟩ := T4.out.at_.cells
  obtain ⟨A1, k1, A2, k2, rfl, rfl⟩ := T4.out.at_.shape
  have i1' : CRow w4 base 3 1 (.slice A1 f.locals.length k1) f.locals.length (intsV f.locals) := T4.out.at_.r1
  obtain ⟨g2, off2, rfl, hg2, hob2, cl, zl⟩ := ints_atF i1' (j := j) hj
  have hn1 : f.locals.length ≤ 9223372036854775807 := by
    obtain ⟨_, _, e, hle, hmx⟩ := i1'.shape
    injection e with _ _ e3
    unfold maxLen at hmx; omega
  clear hs i1' fz' m0 m1' m3 zl hg2 hob2
  go_wp2_with fail
  go_still_tail 9, (by kernel_rfl)
  go_wp2_with fail
  (with_reducible refine H.out.mono ?_)
  rintro e w5 ⟨u5, rfl, q0⟩
  have q := BD.out.trans q0
  have T5 := Lib.hid (T4.out.trans q)
  have NU := Lib.hid (show ob u5 ≠ some w1.heap.size from fun e => by
    rcases q.new _ e with e | e
    · exact (AP.out _ (show w.heap.size ≤ w1.heap.size by have := Y.out; omega)).2.2 e
    · have := S4.out; have := Y.out; omega)
  have R25 := Lib.hid (q.row R2.out (AP.out _ (show w.heap.size ≤ w1.heap.size by have := Y.out; omega)).1 (AP.out _ (show w.heap.size ≤ w1.heap.size by have := Y.out; omega)).2.1 (AP.out _ (show w.heap.size ≤ w1.heap.size by have := Y.out; omega)).2.2)
  clear q q0 i0 i1
  obtain ⟨q0, q1, q2, q3, q4, q5, q6⟩ := row7 R25.out
  have z_ := fun k => (R25.out).free k
  have z0 := z_ 0
  have z1 := z_ 1
  have z2 := z_ 2
  have z3 := z_ 3
  have z4 := z_ 4
  have z5 := z_ 5
  have z6 := z_ 6
  have pz := put7 R25.out rfl (.bool false) (.int .i64 (0)) (.slice none 0 0) (.bool false) (.int .i64 (0)) (.bool false) (.int .i64 (0))
  have EE := Lib.hid pz.1
  have HR := Lib.hid (rins_end (d := ⟨false, 0, [], false, 0, false, 0⟩) (va := .slice none 0 0) T5.out (innI_nil _ _) (fun _ e => by cases e) pz.2 (show w.heap.size ≤ w1.heap.size by have := Y.out; omega) (AP.out _ (show w.heap.size ≤ w1.heap.size by have := Y.out; omega)).1 (AP.out _ (show w.heap.size ≤ w1.heap.size by have := Y.out; omega)).2.1 NU.out (fun e => by cases e))
  clear z_ pz
  go_wp2_with fail
  exact bodyPost_ret (v := .agg (didC (⟨false, 0, [], false, 0, false, 0⟩) (.slice none 0 0)).toArray) (by simp [results, Tryz.results97, go_sem, didC, EE.out.1, EE.out.2.1, EE.out.2.2.1, EE.out.2.2.2.1, EE.out.2.2.2.2.1, EE.out.2.2.2.2.2.1, EE.out.2.2.2.2.2.2]) rfl HR.out
set_option maxRecDepth 100000 in
set_option maxHeartbeats 8000000 in
theorem rins10 {w W0 : World} {base g off cp : Nat} {p : List Fn} {Ap : Option Addr} {f : Frm} {v1 v2 : Value} (h : FAt w base g off f v1 v2) (hb : base ≤ w.heap.size) (hW : Below W0.heap.size W0 w) (hr : ReadsF W0 Ap p)
    {fn pc : Nat} (efn : f.fn = fn) (epc : f.pc = pc) (hfn : fn < p.length) (hpc : pc < p[fn].code.length) {a : Int} (hi : p[fn].code[pc] = ⟨10, a⟩) (d : Int) (h64 : p[fn].code.length ≤ 1000) (hs : f.stack.length ≤ 1000) (ht : 0 < f.stack.length) :
    Calls Tryz.prog 97 #[.agg #[.slice Ap p.length cp], .pointer (some ⟨g, off, none⟩), .int .i64 d] w (RInsE (⟨f.fn, (pc : Int) + 1, f.locals, f.stack ++ [lastN f.stack]⟩) (⟨false, 0, [], false, 0, false, 0⟩) base g off v1 v2 w) := by
  obtain ⟨w1, hw1⟩ : ∃ w1, w.alloc (.cells #[.slice Ap p.length cp] 24) = w1 := ⟨_, rfl⟩
  have b1 : Below w.heap.size w w1 := hw1 ▸ below_alloc (Below.refl _ _) _
  have b2 : Below w1.heap.size w1 (w1.alloc (.cells #[.bool false, .int .i64 0, .slice none 0 0, .bool false, .int .i64 0, .bool false, .int .i64 0] 151)) := below_alloc (Below.refl _ _) _
  have b02 := below_trans b1 b2
  have y1 : w1.heap.size = w.heap.size + 1 := by rw [← hw1]; simp
  have r1 : RowAt 24 w.heap.size [.slice Ap p.length cp] (w1.alloc (.cells #[.bool false, .int .i64 0, .slice none 0 0, .bool false, .int .i64 0, .bool false, .int .i64 0] 151)) := (hw1 ▸ RowAt.new _ _ w : RowAt 24 w.heap.size [.slice Ap p.length cp] w1).below b2
  have r2 : RowAt 151 w1.heap.size [.bool false, .int .i64 0, .slice none 0 0, .bool false, .int .i64 0, .bool false, .int .i64 0] (w1.alloc (.cells #[.bool false, .int .i64 0, .slice none 0 0, .bool false, .int .i64 0, .bool false, .int .i64 0] 151)) := RowAt.new _ _ w1
  have hpw : wrap64 ((pc : Int) + 1) = pc + 1 := by unfold wrap64; omega
  have hF := h.below b02
  have hW2 := below_trans hW b02
  obtain ⟨ad, Ac, cc, rfl, c2, c0, c1, _⟩ := code_at hr hW2 hfn hpc
  have kP := row_cell r1
  obtain ⟨m0, m1, m2, m3, fz⟩ := hF.cells
  rw [efn] at m0
  rw [epc] at m1
  rw [hi] at c0 c1
  simp only at c0 c1
  have hpl := hr.1
  have HR1 := Lib.hid r1
  have HR2 := Lib.hid r2
  have HT2 := Lib.hid (FTurn.of_below h b02)
  have HW2 := Lib.hid hW2
  have AP := Lib.hid (fun (x : Nat) (hx : w.heap.size ≤ x) => h.apart hx)
  have Y := Lib.hid (And.intro y1 (show (w1.alloc (.cells #[.bool false, .int .i64 0, .slice none 0 0, .bool false, .int .i64 0, .bool false, .int .i64 0] 151)).heap.size = w.heap.size + 2 by simp [y1]))
  have HB := Lib.hid hb
  have HPR := Lib.hid hr
  have HW := Lib.hid hW
  have HV2 := Lib.hid h.lo2
  clear y1 h hb hW hr hi r1 r2 hF hW2 fz m2 m3 b1 b2 b02 efn
  go_enter Tryz.func97, Tryz.ntmps97
  go_upto_region 1 with fail
  generalize hw2 : (w1.alloc (.cells #[.bool false, .int .i64 0, .slice none 0 0, .bool false, .int .i64 0, .bool false, .int .i64 0] 151)) = w2 at *
  clear hw1 hw2
  have b3 := below_alloc (Below.refl w2.heap.size w2) (.cells #[.int .i64 0, .int .i64 0] 62)
  have kP3 := cell_below b3 kP
  have c23 := cell_below b3 c2
  have c03 := cell_below b3 c0
  have c13 := cell_below b3 c1
  have m03 := cell_below b3 m0
  have m13 := cell_below b3 m1
  clear b3
  go_region
  clear kP3 c23 c03 c13 m03 m13 kP c0 c1 c2 m0 m1
  have b3 : Below w2.heap.size w2 (w2.alloc (.cells #[.int .i64 10, .int .i64 a] 62)).drew := below_drw (below_alloc (Below.refl w2.heap.size w2) _)
  have rI : RowAt 62 w2.heap.size [.int .i64 10, .int .i64 a] (w2.alloc (.cells #[.int .i64 10, .int .i64 a] 62)).drew := RowAt.new _ _ w2
  generalize hw3 : (w2.alloc (.cells #[.int .i64 10, .int .i64 a] 62)).drew = w3 at *
  have T3 := HT2.out.after b3
  obtain ⟨_, m1, _, _, fz⟩ := T3.at_.cells
  rw [epc] at m1
  have hz1 := fz (off + 1)
  obtain ⟨w4, hw4⟩ : ∃ w4, w3.setCell ⟨g, off + 1, none⟩ (.int .i64 ((pc : Int) + 1)) = w4 := ⟨_, rfl⟩
  have hP4 := T3.at_.put_pc ((pc : Int) + 1)
  rw [hw4] at hP4
  have T4 := Lib.hid (T3.trans hP4)
  have row4 : ∀ {t b : Nat} {cs : List Value}, RowAt t b cs w2 → w.heap.size ≤ b → RowAt t b cs w4 := fun hr hx => hP4.row (hr.below b3) (AP.out _ hx).1 (AP.out _ hx).2.1 (AP.out _ hx).2.2
  have rI4 := hP4.row rI (AP.out _ (show w.heap.size ≤ w2.heap.size by have := Y.out; omega)).1 (AP.out _ (show w.heap.size ≤ w2.heap.size by have := Y.out; omega)).2.1 (AP.out _ (show w.heap.size ≤ w2.heap.size by have := Y.out; omega)).2.2
  have R1 := Lib.hid (row4 HR1.out (Nat.le_refl _))
  have R2 := Lib.hid (row4 HR2.out (by have := Y.out; omega))
  have RI := Lib.hid rI4
  have i0 := rI4.cell (k := 0) (by simp)
  have i1 := rI4.cell (k := 1) (by simp)
  simp only [List.getElem_cons_zero, List.getElem_cons_succ] at i0 i1
  have S4 := Lib.hid (show w2.heap.size < w4.heap.size from blk_lt rI4)
  clear T3 hP4 row4 rI4 rI fz HT2 HR1 HR2
  have BD := Lib.hid (FTurn.of_below T4.out.at_ (below_drw (Below.refl w4.heap.size w4)))
  have H := Lib.hid (rpush_at BD.out.at_ (show base ≤ _ from Nat.le_trans HB.out T4.out.chg.size) hs (lastN f.stack))
  obtain ⟨g2, off2, L, k2, rfl, hL, hcap, hn1, cl, _⟩ := pop_prep T4.out.at_ ht
  obtain ⟨m0, m1', m2, m3, fz'⟩ := T4.out.at_.cells
  have hi2 : IntKind.i64.wrap ((L : Int) + 1 - 1) = L := by rw [IntKind.wrap_i64]; omega
  have hi3 : IntKind.i64.wrap (((L + 1 : Nat) : Int) - 1) = L := by rw [IntKind.wrap_i64]; omega
  have hi4 : L < L + 1 := by omega
  have hi5 : (L : Int) < (L : Int) + 1 := by omega
  have hi6 : IntKind.i64.wrap (L : Int) = L := by rw [IntKind.wrap_i64]; omega
  have hi7 : (0 : Int) ≤ (L : Int) := by omega
  clear hs fz' m0 m1' m2 ht hL
  go_wp2_with fail
  go_still_tail 13, (by kernel_rfl)
  go_wp2_with fail
  (with_reducible refine H.out.mono ?_)
  rintro e w5 ⟨u5, rfl, q0⟩
  have q := BD.out.trans q0
  have T5 := Lib.hid (T4.out.trans q)
  have NU := Lib.hid (show ob u5 ≠ some w1.heap.size from fun e => by
    rcases q.new _ e with e | e
    · exact (AP.out _ (show w.heap.size ≤ w1.heap.size by have := Y.out; omega)).2.2 e
    · have := S4.out; have := Y.out; omega)
  have R25 := Lib.hid (q.row R2.out (AP.out _ (show w.heap.size ≤ w1.heap.size by have := Y.out; omega)).1 (AP.out _ (show w.heap.size ≤ w1.heap.size by have := Y.out; omega)).2.1 (AP.out _ (show w.heap.size ≤ w1.heap.size by have := Y.out; omega)).2.2)
  clear q q0 i0 i1
  obtain ⟨q0, q1, q2, q3, q4, q5, q6⟩ := row7 R25.out
  have z_ := fun k => (R25.out).free k
  have z0 := z_ 0
  have z1 := z_ 1
  have z2 := z_ 2
  have z3 := z_ 3
  have z4 := z_ 4
  have z5 := z_ 5
  have z6 := z_ 6
  have pz := put7 R25.out rfl (.bool false) (.int .i64 (0)) (.slice none 0 0) (.bool false) (.int .i64 (0)) (.bool false) (.int .i64 (0))
  have EE := Lib.hid pz.1
  have HR := Lib.hid (rins_end (d := ⟨false, 0, [], false, 0, false, 0⟩) (va := .slice none 0 0) T5.out (innI_nil _ _) (fun _ e => by cases e) pz.2 (show w.heap.size ≤ w1.heap.size by have := Y.out; omega) (AP.out _ (show w.heap.size ≤ w1.heap.size by have := Y.out; omega)).1 (AP.out _ (show w.heap.size ≤ w1.heap.size by have := Y.out; omega)).2.1 NU.out (fun e => by cases e))
  clear z_ pz
  go_wp2_with fail
  exact bodyPost_ret (v := .agg (didC (⟨false, 0, [], false, 0, false, 0⟩) (.slice none 0 0)).toArray) (by simp [results, Tryz.results97, go_sem, didC, EE.out.1, EE.out.2.1, EE.out.2.2.1, EE.out.2.2.2.1, EE.out.2.2.2.2.1, EE.out.2.2.2.2.2.1, EE.out.2.2.2.2.2.2]) rfl HR.out
set_option maxRecDepth 100000 in
set_option maxHeartbeats 8000000 in
theorem rins14d {w W0 : World} {base g off cp : Nat} {p : List Fn} {Ap : Option Addr} {f : Frm} {v1 v2 : Value} (h : FAt w base g off f v1 v2) (hb : base ≤ w.heap.size) (hW : Below W0.heap.size W0 w) (hr : ReadsF W0 Ap p)
    {fn pc : Nat} (efn : f.fn = fn) (epc : f.pc = pc) (hfn : fn < p.length) (hpc : pc < p[fn].code.length) {a : Int} (hi : p[fn].code[pc] = ⟨14, a⟩) (d : Int) (h64 : p[fn].code.length ≤ 1000) (hd : 12 ≤ d) :
    Calls Tryz.prog 97 #[.agg #[.slice Ap p.length cp], .pointer (some ⟨g, off, none⟩), .int .i64 d] w (RInsE (⟨f.fn, (pc : Int) + 1, f.locals, f.stack⟩) (⟨false, 0, [], false, 0, false, 3⟩) base g off v1 v2 w) := by
  obtain ⟨w1, hw1⟩ : ∃ w1, w.alloc (.cells #[.slice Ap p.length cp] 24) = w1 := ⟨_, rfl⟩
  have b1 : Below w.heap.size w w1 := hw1 ▸ below_alloc (Below.refl _ _) _
  have b2 : Below w1.heap.size w1 (w1.alloc (.cells #[.bool false, .int .i64 0, .slice none 0 0, .bool false, .int .i64 0, .bool false, .int .i64 0] 151)) := below_alloc (Below.refl _ _) _
  have b02 := below_trans b1 b2
  have y1 : w1.heap.size = w.heap.size + 1 := by rw [← hw1]; simp
  have r1 : RowAt 24 w.heap.size [.slice Ap p.length cp] (w1.alloc (.cells #[.bool false, .int .i64 0, .slice none 0 0, .bool false, .int .i64 0, .bool false, .int .i64 0] 151)) := (hw1 ▸ RowAt.new _ _ w : RowAt 24 w.heap.size [.slice Ap p.length cp] w1).below b2
  have r2 : RowAt 151 w1.heap.size [.bool false, .int .i64 0, .slice none 0 0, .bool false, .int .i64 0, .bool false, .int .i64 0] (w1.alloc (.cells #[.bool false, .int .i64 0, .slice none 0 0, .bool false, .int .i64 0, .bool false, .int .i64 0] 151)) := RowAt.new _ _ w1
  have hpw : wrap64 ((pc : Int) + 1) = pc + 1 := by unfold wrap64; omega
  have hF := h.below b02
  have hW2 := below_trans hW b02
  obtain ⟨ad, Ac, cc, rfl, c2, c0, c1, _⟩ := code_at hr hW2 hfn hpc
  have kP := row_cell r1
  obtain ⟨m0, m1, m2, m3, fz⟩ := hF.cells
  rw [efn] at m0
  rw [epc] at m1
  rw [hi] at c0 c1
  simp only at c0 c1
  have hpl := hr.1
  have HR1 := Lib.hid r1
  have HR2 := Lib.hid r2
  have HT2 := Lib.hid (FTurn.of_below h b02)
  have HW2 := Lib.hid hW2
  have AP := Lib.hid (fun (x : Nat) (hx : w.heap.size ≤ x) => h.apart hx)
  have Y := Lib.hid (And.intro y1 (show (w1.alloc (.cells #[.bool false, .int .i64 0, .slice none 0 0, .bool false, .int .i64 0, .bool false, .int .i64 0] 151)).heap.size = w.heap.size + 2 by simp [y1]))
  have HB := Lib.hid hb
  have HPR := Lib.hid hr
  have HW := Lib.hid hW
  have HV2 := Lib.hid h.lo2
  clear y1 h hb hW hr hi r1 r2 hF hW2 fz m2 m3 b1 b2 b02 efn
  go_enter Tryz.func97, Tryz.ntmps97
  go_upto_region 1 with fail
  generalize hw2 : (w1.alloc (.cells #[.bool false, .int .i64 0, .slice none 0 0, .bool false, .int .i64 0, .bool false, .int .i64 0] 151)) = w2 at *
  clear hw1 hw2
  have b3 := below_alloc (Below.refl w2.heap.size w2) (.cells #[.int .i64 0, .int .i64 0] 62)
  have kP3 := cell_below b3 kP
  have c23 := cell_below b3 c2
  have c03 := cell_below b3 c0
  have c13 := cell_below b3 c1
  have m03 := cell_below b3 m0
  have m13 := cell_below b3 m1
  clear b3
  go_region
  clear kP3 c23 c03 c13 m03 m13 kP c0 c1 c2 m0 m1
  have b3 : Below w2.heap.size w2 (w2.alloc (.cells #[.int .i64 14, .int .i64 a] 62)).drew := below_drw (below_alloc (Below.refl w2.heap.size w2) _)
  have rI : RowAt 62 w2.heap.size [.int .i64 14, .int .i64 a] (w2.alloc (.cells #[.int .i64 14, .int .i64 a] 62)).drew := RowAt.new _ _ w2
  generalize hw3 : (w2.alloc (.cells #[.int .i64 14, .int .i64 a] 62)).drew = w3 at *
  have T3 := HT2.out.after b3
  obtain ⟨_, m1, _, _, fz⟩ := T3.at_.cells
  rw [epc] at m1
  have hz1 := fz (off + 1)
  obtain ⟨w4, hw4⟩ : ∃ w4, w3.setCell ⟨g, off + 1, none⟩ (.int .i64 ((pc : Int) + 1)) = w4 := ⟨_, rfl⟩
  have hP4 := T3.at_.put_pc ((pc : Int) + 1)
  rw [hw4] at hP4
  have T4 := Lib.hid (T3.trans hP4)
  have row4 : ∀ {t b : Nat} {cs : List Value}, RowAt t b cs w2 → w.heap.size ≤ b → RowAt t b cs w4 := fun hr hx => hP4.row (hr.below b3) (AP.out _ hx).1 (AP.out _ hx).2.1 (AP.out _ hx).2.2
  have rI4 := hP4.row rI (AP.out _ (show w.heap.size ≤ w2.heap.size by have := Y.out; omega)).1 (AP.out _ (show w.heap.size ≤ w2.heap.size by have := Y.out; omega)).2.1 (AP.out _ (show w.heap.size ≤ w2.heap.size by have := Y.out; omega)).2.2
  have R1 := Lib.hid (row4 HR1.out (Nat.le_refl _))
  have R2 := Lib.hid (row4 HR2.out (by have := Y.out; omega))
  have RI := Lib.hid rI4
  have i0 := rI4.cell (k := 0) (by simp)
  have i1 := rI4.cell (k := 1) (by simp)
  simp only [List.getElem_cons_zero, List.getElem_cons_succ] at i0 i1
  have S4 := Lib.hid (show w2.heap.size < w4.heap.size from blk_lt rI4)
  clear T3 hP4 row4 rI4 rI fz HT2 HR1 HR2
  have k1 := R1.out.cell (k := 0) (by simp)
  simp only [List.getElem_cons_zero] at k1
  have H := Lib.hid (rcallD_any (cp := cp) (p := p) (Ap := some ad) T4.out.at_ a d hd)
  clear hd
  go_wp2_with fail
  (with_reducible refine H.out.mono ?_)
  rintro e w5 ⟨u5, va, rfl, q, hva, hdis⟩
  have T5 := Lib.hid (T4.out.trans q)
  have NU := Lib.hid (show ob u5 ≠ some w1.heap.size from fun e => by
    rcases q.new _ e with e | e
    · exact (AP.out _ (show w.heap.size ≤ w1.heap.size by have := Y.out; omega)).2.2 e
    · have := S4.out; have := Y.out; omega)
  have R25 := Lib.hid (q.row R2.out (AP.out _ (show w.heap.size ≤ w1.heap.size by have := Y.out; omega)).1 (AP.out _ (show w.heap.size ≤ w1.heap.size by have := Y.out; omega)).2.1 (AP.out _ (show w.heap.size ≤ w1.heap.size by have := Y.out; omega)).2.2)
  have HI := Lib.hid (show InnAt w5 w.heap.size va (innI []) from CRow.mono hva (by have := S4.out; have := Y.out; omega))
  have NA := Lib.hid (show ob va ≠ some w1.heap.size from fun e => by have := (CRow.in_ hva _ e).1; have := S4.out; have := Y.out; omega)
  have DIS := Lib.hid hdis
  obtain ⟨vA, vc, eva, _⟩ := CRow.shape hva
  have eva' : va = .slice vA 0 vc := eva
  clear q hva hdis i0 i1 k1 eva
  subst eva'
  unfold didC
  obtain ⟨q0, q1, q2, q3, q4, q5, q6⟩ := row7 R25.out
  have z_ := fun k => (R25.out).free k
  have z0 := z_ 0
  have z1 := z_ 1
  have z2 := z_ 2
  have z3 := z_ 3
  have z4 := z_ 4
  have z5 := z_ 5
  have z6 := z_ 6
  have pz := put7 R25.out rfl (.bool false) (.int .i64 (0)) ((.slice vA 0 vc)) (.bool false) (.int .i64 (0)) (.bool false) (.int .i64 (3))
  have EE := Lib.hid pz.1
  have HR := Lib.hid (rins_end (d := ⟨false, 0, [], false, 0, false, 3⟩) (va := (.slice vA 0 vc)) T5.out HI.out DIS.out pz.2 (show w.heap.size ≤ w1.heap.size by have := Y.out; omega) (AP.out _ (show w.heap.size ≤ w1.heap.size by have := Y.out; omega)).1 (AP.out _ (show w.heap.size ≤ w1.heap.size by have := Y.out; omega)).2.1 NU.out NA.out)
  clear z_ pz
  go_wp2_with fail
  exact bodyPost_ret (v := .agg (didC (⟨false, 0, [], false, 0, false, 3⟩) ((.slice vA 0 vc))).toArray) (by simp [results, Tryz.results97, go_sem, didC, EE.out.1, EE.out.2.1, EE.out.2.2.1, EE.out.2.2.2.1, EE.out.2.2.2.2.1, EE.out.2.2.2.2.2.1, EE.out.2.2.2.2.2.2]) rfl HR.out
set_option maxRecDepth 100000 in
set_option maxHeartbeats 8000000 in
theorem rins14 {w W0 : World} {base g off cp : Nat} {p : List Fn} {Ap : Option Addr} {f : Frm} {v1 v2 : Value} (h : FAt w base g off f v1 v2) (hb : base ≤ w.heap.size) (hW : Below W0.heap.size W0 w) (hr : ReadsF W0 Ap p)
    {fn pc : Nat} (efn : f.fn = fn) (epc : f.pc = pc) (hfn : fn < p.length) (hpc : pc < p[fn].code.length) {n : Nat} (hi : p[fn].code[pc] = ⟨14, n⟩) (d : Int) (h64 : p[fn].code.length ≤ 1000) (hd : d < 12) {M : Nat} (hn : n < p.length) (hM : p[n].args = M) (hle : M ≤ f.stack.length) (h8 : f.stack.length ≤ 1000) (hbs : W0.heap.size ≤ base) :
    Calls Tryz.prog 97 #[.agg #[.slice Ap p.length cp], .pointer (some ⟨g, off, none⟩), .int .i64 d] w (RInsE (⟨f.fn, (pc : Int) + 1, f.locals, f.stack.take (f.stack.length - M)⟩) (⟨true, n, f.stack.drop (f.stack.length - M), false, 0, false, 0⟩) base g off v1 v2 w) := by
  obtain ⟨w1, hw1⟩ : ∃ w1, w.alloc (.cells #[.slice Ap p.length cp] 24) = w1 := ⟨_, rfl⟩
  have b1 : Below w.heap.size w w1 := hw1 ▸ below_alloc (Below.refl _ _) _
  have b2 : Below w1.heap.size w1 (w1.alloc (.cells #[.bool false, .int .i64 0, .slice none 0 0, .bool false, .int .i64 0, .bool false, .int .i64 0] 151)) := below_alloc (Below.refl _ _) _
  have b02 := below_trans b1 b2
  have y1 : w1.heap.size = w.heap.size + 1 := by rw [← hw1]; simp
  have r1 : RowAt 24 w.heap.size [.slice Ap p.length cp] (w1.alloc (.cells #[.bool false, .int .i64 0, .slice none 0 0, .bool false, .int .i64 0, .bool false, .int .i64 0] 151)) := (hw1 ▸ RowAt.new _ _ w : RowAt 24 w.heap.size [.slice Ap p.length cp] w1).below b2
  have r2 : RowAt 151 w1.heap.size [.bool false, .int .i64 0, .slice none 0 0, .bool false, .int .i64 0, .bool false, .int .i64 0] (w1.alloc (.cells #[.bool false, .int .i64 0, .slice none 0 0, .bool false, .int .i64 0, .bool false, .int .i64 0] 151)) := RowAt.new _ _ w1
  have hpw : wrap64 ((pc : Int) + 1) = pc + 1 := by unfold wrap64; omega
  have hF := h.below b02
  have hW2 := below_trans hW b02
  obtain ⟨ad, Ac, cc, rfl, c2, c0, c1, _⟩ := code_at hr hW2 hfn hpc
  have kP := row_cell r1
  obtain ⟨m0, m1, m2, m3, fz⟩ := hF.cells
  rw [efn] at m0
  rw [epc] at m1
  rw [hi] at c0 c1
  simp only at c0 c1
  have hpl := hr.1
  have HR1 := Lib.hid r1
  have HR2 := Lib.hid r2
  have HT2 := Lib.hid (FTurn.of_below h b02)
  have HW2 := Lib.hid hW2
  have AP := Lib.hid (fun (x : Nat) (hx : w.heap.size ≤ x) => h.apart hx)
  have Y := Lib.hid (And.intro y1 (show (w1.alloc (.cells #[.bool false, .int .i64 0, .slice none 0 0, .bool false, .int .i64 0, .bool false, .int .i64 0] 151)).heap.size = w.heap.size + 2 by simp [y1]))
  have HB := Lib.hid hb
  have HPR := Lib.hid hr
  have HW := Lib.hid hW
  have HV2 := Lib.hid h.lo2
  clear y1 h hb hW hr hi r1 r2 hF hW2 fz m2 m3 b1 b2 b02 efn
  go_enter Tryz.func97, Tryz.ntmps97
  go_upto_region 1 with fail
  generalize hw2 : (w1.alloc (.cells #[.bool false, .int .i64 0, .slice none 0 0, .bool false, .int .i64 0, .bool false, .int .i64 0] 151)) = w2 at *
  clear hw1 hw2
  have b3 := below_alloc (Below.refl w2.heap.size w2) (.cells #[.int .i64 0, .int .i64 0] 62)
  have kP3 := cell_below b3 kP
  have c23 := cell_below b3 c2
  have c03 := cell_below b3 c0
  have c13 := cell_below b3 c1
  have m03 := cell_below b3 m0
  have m13 := cell_below b3 m1
  clear b3
  go_region
  clear kP3 c23 c03 c13 m03 m13 kP c0 c1 c2 m0 m1
  have b3 : Below w2.heap.size w2 (w2.alloc (.cells #[.int .i64 14, .int .i64 n] 62)).drew := below_drw (below_alloc (Below.refl w2.heap.size w2) _)
  have rI : RowAt 62 w2.heap.size [.int .i64 14, .int .i64 n] (w2.alloc (.cells #[.int .i64 14, .int .i64 n] 62)).drew := RowAt.new _ _ w2
  generalize hw3 : (w2.alloc (.cells #[.int .i64 14, .int .i64 n] 62)).drew = w3 at *
  have T3 := HT2.out.after b3
  obtain ⟨_, m1, _, _, fz⟩ := T3.at_.cells
  rw [epc] at m1
  have hz1 := fz (off + 1)
  obtain ⟨w4, hw4⟩ : ∃ w4, w3.setCell ⟨g, off + 1, none⟩ (.int .i64 ((pc : Int) + 1)) = w4 := ⟨_, rfl⟩
  have hP4 := T3.at_.put_pc ((pc : Int) + 1)
  rw [hw4] at hP4
  have T4 := Lib.hid (T3.trans hP4)
  have row4 : ∀ {t b : Nat} {cs : List Value}, RowAt t b cs w2 → w.heap.size ≤ b → RowAt t b cs w4 := fun hr hx => hP4.row (hr.below b3) (AP.out _ hx).1 (AP.out _ hx).2.1 (AP.out _ hx).2.2
  have rI4 := hP4.row rI (AP.out _ (show w.heap.size ≤ w2.heap.size by have := Y.out; omega)).1 (AP.out _ (show w.heap.size ≤ w2.heap.size by have := Y.out; omega)).2.1 (AP.out _ (show w.heap.size ≤ w2.heap.size by have := Y.out; omega)).2.2
  have R1 := Lib.hid (row4 HR1.out (Nat.le_refl _))
  have R2 := Lib.hid (row4 HR2.out (by have := Y.out; omega))
  have RI := Lib.hid rI4
  have i0 := rI4.cell (k := 0) (by simp)
  have i1 := rI4.cell (k := 1) (by simp)
  simp only [List.getElem_cons_zero, List.getElem_cons_succ] at i0 i1
  have S4 := Lib.hid (show w2.heap.size < w4.heap.size from blk_lt rI4)
  clear T3 hP4 row4 rI4 rI fz HT2 HR1 HR2
  have k1 := R1.out.cell (k := 0) (by simp)
  simp only [List.getElem_cons_zero] at k1
  have HBW := Chg.below HW.out T4.out.chg (fun k hk => by
    have h1 := T4.out.at_.lo
    rcases hk with e | e | e
    · omega
    · have := (T4.out.at_.lo1 k e).1; omega
    · have := (HV2.out k e).1; omega)
  have H := Lib.hid (rcall_any (cp := cp) (n := n) T4.out.at_ HBW HPR.out hn hM hle h8 d hd)
  have HDL := Lib.hid (show (f.stack.drop (f.stack.length - M)).length = M from by rw [List.length_drop]; omega)
  clear hd hle hn hM h8 hbs HBW
  go_wp2_with fail
  (with_reducible refine H.out.mono ?_)
  rintro e w5 ⟨u5, va, rfl, q, hva, hdis⟩
  have T5 := Lib.hid (T4.out.trans q)
  have NU := Lib.hid (show ob u5 ≠ some w1.heap.size from fun e => by
    rcases q.new _ e with e | e
    · exact (AP.out _ (show w.heap.size ≤ w1.heap.size by have := Y.out; omega)).2.2 e
    · have := S4.out; have := Y.out; omega)
  have R25 := Lib.hid (q.row R2.out (AP.out _ (show w.heap.size ≤ w1.heap.size by have := Y.out; omega)).1 (AP.out _ (show w.heap.size ≤ w1.heap.size by have := Y.out; omega)).2.1 (AP.out _ (show w.heap.size ≤ w1.heap.size by have := Y.out; omega)).2.2)
  have HI := Lib.hid (show InnAt w5 w.heap.size va (innI (f.stack.drop (f.stack.length - M))) from CRow.mono hva (by have := S4.out; have := Y.out; omega))
  have NA := Lib.hid (show ob va ≠ some w1.heap.size from fun e => by have := (CRow.in_ hva _ e).1; have := S4.out; have := Y.out; omega)
  have DIS := Lib.hid hdis
  obtain ⟨vA, vc, eva, _⟩ := CRow.shape hva
  obtain ⟨vn, eva'⟩ : ∃ vn, va = .slice vA vn vc := ⟨_, eva⟩
  clear q hva hdis i0 i1 k1 eva
  subst eva'
  unfold didC
  obtain ⟨q0, q1, q2, q3, q4, q5, q6⟩ := row7 R25.out
  have z_ := fun k => (R25.out).free k
  have z0 := z_ 0
  have z1 := z_ 1
  have z2 := z_ 2
  have z3 := z_ 3
  have z4 := z_ 4
  have z5 := z_ 5
  have z6 := z_ 6
  have pz := put7 R25.out rfl (.bool true) (.int .i64 (n)) ((.slice vA vn vc)) (.bool false) (.int .i64 (0)) (.bool false) (.int .i64 (0))
  have EE := Lib.hid pz.1
  have HR := Lib.hid (rins_end (d := ⟨true, n, f.stack.drop (f.stack.length - M), false, 0, false, 0⟩) (va := (.slice vA vn vc)) T5.out HI.out DIS.out pz.2 (show w.heap.size ≤ w1.heap.size by have := Y.out; omega) (AP.out _ (show w.heap.size ≤ w1.heap.size by have := Y.out; omega)).1 (AP.out _ (show w.heap.size ≤ w1.heap.size by have := Y.out; omega)).2.1 NU.out NA.out)
  clear z_ pz
  go_wp2_with fail
  exact bodyPost_ret (v := .agg (didC (⟨true, n, f.stack.drop (f.stack.length - M), false, 0, false, 0⟩) ((.slice vA vn vc))).toArray) (by simp [results, Tryz.results97, go_sem, didC, EE.out.1, EE.out.2.1, EE.out.2.2.1, EE.out.2.2.2.1, EE.out.2.2.2.2.1, EE.out.2.2.2.2.2.1, EE.out.2.2.2.2.2.2]) rfl HR.out
set_option maxRecDepth 100000 in
set_option maxHeartbeats 8000000 in
theorem rins2 {w W0 : World} {base g off cp : Nat} {p : List Fn} {Ap : Option Addr} {f : Frm} {v1 v2 : Value} (h : FAt w base g off f v1 v2) (hb : base ≤ w.heap.size) (hW : Below W0.heap.size W0 w) (hr : ReadsF W0 Ap p)
    {fn pc : Nat} (efn : f.fn = fn) (epc : f.pc = pc) (hfn : fn < p.length) (hpc : pc < p[fn].code.length) {j : Nat} (hi : p[fn].code[pc] = ⟨2, j⟩) (d : Int) (h64 : p[fn].code.length ≤ 1000) (hj : j < f.locals.length) (ht : 0 < f.stack.length) :
    Calls Tryz.prog 97 #[.agg #[.slice Ap p.length cp], .pointer (some ⟨g, off, none⟩), .int .i64 d] w (RInsE (⟨f.fn, (pc : Int) + 1, f.locals.set j (lastN f.stack), f.stack.dropLast⟩) (⟨false, 0, [], false, 0, false, 0⟩) base g off v1 v2 w) := by
  obtain ⟨w1, hw1⟩ : ∃ w1, w.alloc (.cells #[.slice Ap p.length cp] 24) = w1 := ⟨_, rfl⟩
  have b1 : Below w.heap.size w w1 := hw1 ▸ below_alloc (Below.refl _ _) _
  have b2 : Below w1.heap.size w1 (w1.alloc (.cells #[.bool false, .int .i64 0, .slice none 0 0, .bool false, .int .i64 0, .bool false, .int .i64 0] 151)) := below_alloc (Below.refl _ _) _
  have b02 := below_trans b1 b2
  have y1 : w1.heap.size = w.heap.size + 1 := by rw [← hw1]; simp
  have r1 : RowAt 24 w.heap.size [.slice Ap p.length cp] (w1.alloc (.cells #[.bool false, .int .i64 0, .slice none 0 0, .bool false, .int .i64 0, .bool false, .int .i64 0] 151)) := (hw1 ▸ RowAt.new _ _ w : RowAt 24 w.heap.size [.slice Ap p.length cp] w1).below b2
  have r2 : RowAt 151 w1.heap.size [.bool false, .int .i64 0, .slice none 0 0, .bool false, .int .i64 0, .bool false, .int .i64 0] (w1.alloc (.cells #[.bool false, .int .i64 0, .slice none 0 0, .bool false, .int .i64 0, .bool false, .int .i64 0] 151)) := RowAt.new _ _ w1
  have hpw : wrap64 ((pc : Int) + 1) = pc + 1 := by unfold wrap64; omega
  have hF := h.below b02
  have hW2 := below_trans hW b02
  obtain ⟨ad, Ac, cc, rfl, c2, c0, c1, _⟩ := code_at hr hW2 hfn hpc
  have kP := row_cell r1
  obtain ⟨m0, m1, m2, m3, fz⟩ := hF.cells
  rw [efn] at m0
  rw [epc] at m1
  rw [hi] at c0 c1
  simp only at c0 c1
  have hpl := hr.1
  have HR1 := Lib.hid r1
  have HR2 := Lib.hid r2
  have HT2 := Lib.hid (FTurn.of_below h b02)
  have HW2 := Lib.hid hW2
  have AP := Lib.hid (fun (x : Nat) (hx : w.heap.size ≤ x) => h.apart hx)
  have Y := Lib.hid (And.intro y1 (show (w1.alloc (.cells #[.bool false, .int .i64 0, .slice none 0 0, .bool false, .int .i64 0, .bool false, .int .i64 0] 151)).heap.size = w.heap.size + 2 by simp [y1]))
  have HB := Lib.hid hb
  have HPR := Lib.hid hr
  have HW := Lib.hid hW
  have HV2 := Lib.hid h.lo2
  clear y1 h hb hW hr hi r1 r2 hF hW2 fz m2 m3 b1 b2 b02 efn
  go_enter Tryz.func97, Tryz.ntmps97
  go_upto_region 1 with fail
  generalize hw2 : (w1.alloc (.cells #[.bool false, .int .i64 0, .slice none 0 0, .bool false, .int .i64 0, .bool false, .int .i64 0] 151)) = w2 at *
  clear hw1 hw2
  have b3 := below_alloc (Below.refl w2.heap.size w2) (.cells #[.int .i64 0, .int .i64 0] 62)
  have kP3 := cell_below b3 kP
  have c23 := cell_below b3 c2
  have c03 := cell_below b3 c0
  have c13 := cell_below b3 c1
  have m03 := cell_below b3 m0
  have m13 := cell_below b3 m1
  clear b3
  go_region
  clear kP3 c23 c03 c13 m03 m13 kP c0 c1 c2 m0 m1
  have b3 : Below w2.heap.size w2 (w2.alloc (.cells #[.int .i64 2, .int .i64 j] 62)).drew := below_drw (below_alloc (Below.refl w2.heap.size w2) _)
  have rI : RowAt 62 w2.heap.size [.int .i64 2, .int .i64 j] (w2.alloc (.cells #[.int .i64 2, .int .i64 j] 62)).drew := RowAt.new _ _ w2
  generalize hw3 : (w2.alloc (.cells #[.int .i64 2, .int .i64 j] 62)).drew = w3 at *
  have T3 := HT2.out.after b3
  obtain ⟨_, m1, _, _, fz⟩ := T3.at_.cells
  rw [epc] at m1
  have hz1 := fz (off + 1)
  obtain ⟨w4, hw4⟩ : ∃ w4, w3.setCell ⟨g, off + 1, none⟩ (.int .i64 ((pc : Int) + 1)) = w4 := ⟨_, rfl⟩
  have hP4 := T3.at_.put_pc ((pc : Int) + 1)
  rw [hw4] at hP4
  have T4 := Lib.hid (T3.trans hP4)
  have row4 : ∀ {t b : Nat} {cs : List Value}, RowAt t b cs w2 → w.heap.size ≤ b → RowAt t b cs w4 := fun hr hx => hP4.row (hr.below b3) (AP.out _ hx).1 (AP.out _ hx).2.1 (AP.out _ hx).2.2
  have rI4 := hP4.row rI (AP.out _ (show w.heap.size ≤ w2.heap.size by have := Y.out; omega)).1 (AP.out _ (show w.heap.size ≤ w2.heap.size by have := Y.out; omega)).2.1 (AP.out _ (show w.heap.size ≤ w2.heap.size by have := Y.out; omega)).2.2
  have R1 := Lib.hid (row4 HR1.out (Nat.le_refl _))
  have R2 := Lib.hid (row4 HR2.out (by have := Y.out; omega))
  have RI := Lib.hid rI4
  have i0 := rI4.cell (k := 0) (by simp)
  have i1 := rI4.cell (k := 1) (by simp)
  simp only [List.getElem_cons_zero, List.getElem_cons_succ] at i0 i1
  have S4 := Lib.hid (show w2.heap.size < w4.heap.size from blk_lt rI4)
  clear T3 hP4 row4 rI4 rI fz HT2 HR1 HR2
  have BD := Lib.hid (FTurn.of_below T4.out.at_ (below_drw (Below.refl w4.heap.size w4)))
  obtain ⟨A1, k1, A2, k2, rfl, rfl⟩ := T4.out.at_.shape
  have H := Lib.hid (rpop_at BD.out.at_ ht)
  obtain ⟨m0, m1', m2, m3, fz'⟩ := T4.out.at_.cells
  have i1' : CRow w4 base 3 1 (.slice A1 f.locals.length k1) f.locals.length (intsV f.locals) := T4.out.at_.r1
  obtain ⟨g2, off2, rfl, hg2, hob2, cl, zl⟩ := ints_atF i1' (j := j) hj
  have hn1 : f.locals.length ≤ 9223372036854775807 := by
    obtain ⟨_, _, e, hle, hmx⟩ := i1'.shape
    injection e with _ _ e3
    unfold maxLen at hmx; omega
  have hg2g : g ≠ g2 := fun e => T4.out.at_.n1 (e ▸ hob2)
  have hg2w : w2.heap.size ≠ g2 := fun e => (AP.out _ (show w.heap.size ≤ w2.heap.size by have := Y.out; omega)).2.1 (e ▸ hob2)
  have hg2r : w1.heap.size ≠ g2 := fun e => (AP.out _ (show w.heap.size ≤ w1.heap.size by have := Y.out; omega)).2.1 (e ▸ hob2)
  have HJ := Lib.hid hj
  have far : ¬ (w2.heap.size = g ∨ ob (.slice (some ⟨g2, off2, none⟩) f.locals.length k1) = some w2.heap.size ∨ ob (.slice A2 f.stack.length k2) = some w2.heap.size) := fun hb => by
    rcases hb with e | e | e
    · exact (AP.out _ (show w.heap.size ≤ w2.heap.size by have := Y.out; omega)).1 e
    · exact (AP.out _ (show w.heap.size ≤ w2.heap.size by have := Y.out; omega)).2.1 e
    · exact (AP.out _ (show w.heap.size ≤ w2.heap.size by have := Y.out; omega)).2.2 e
  have FAR := Lib.hid far
  have HG2 := Lib.hid hg2r
  clear i1' fz' m0 m1' m3 hg2 hob2 far cl zl ht hg2r
  go_wp2_with fail
  go_region_held3 (fun W' => W'.cell? ⟨g, off + 2, none⟩ = some (.slice (some ⟨g2, off2, none⟩) f.locals.length k1) ∧ W'.cell? ⟨w2.heap.size, 1, none⟩ = some (.int .i64 j)) (first | exact ⟨m2, i1⟩ | exact ⟨m2', e1'⟩ | exact ⟨m3', e3'⟩ | go_keep) (first | (go_at_call 117; (with_reducible refine H.out.mono ?_); rintro e w5 ⟨u5, rfl, h1⟩; have HT := Lib.hid h1; have m2' := h1.at_.cells.2.2.1; have r1 := (RI.out.below (below_drw (Below.refl w4.heap.size w4))).chg h1.chg FAR.out; have e1' := r1.cell (k := 1) (by simp); simp only [List.getElem_cons_zero, List.getElem_cons_succ] at e1'; obtain ⟨_, _, eA, _, _, cl, zl⟩ := ints_atF (show CRow w5 base 3 1 (.slice (some ⟨g2, off2, none⟩) f.locals.length k1) f.locals.length (intsV f.locals) from h1.at_.r1) (j := j) HJ.out; cases eA; have kc : Chg (fun b => b = g2) w5 (w5.setCell ⟨g2, off2 + j, none⟩ (.int .i64 (lastN f.stack))) := Chg.put (S := fun b => b = g2) (Chg.refl _ w5) (a := ⟨g2, off2 + j, none⟩) rfl _; have m3' := kc.cell m2' hg2g; have e3' := kc.cell e1' hg2w; have hP := h1.at_.put_local HJ.out (lastN f.stack); have Q6 := Lib.hid (BD.out.trans (h1.trans hP)); clear r1 h1 kc hP))
  all_goals
    generalize hw6 : w5.setCell ⟨g2, off2 + j, none⟩ (.int .i64 (lastN f.stack)) = w6 at *
    have T6 := Lib.hid (T4.out.trans Q6.out)
    have NU := Lib.hid (show ob u5 ≠ some w1.heap.size from fun e => by
      rcases Q6.out.new _ e with e | e
      · exact (AP.out _ (show w.heap.size ≤ w1.heap.size by have := Y.out; omega)).2.2 e
      · have := S4.out; have := Y.out; omega)
    have R26 := Lib.hid (Q6.out.row R2.out (AP.out _ (show w.heap.size ≤ w1.heap.size by have := Y.out; omega)).1 (AP.out _ (show w.heap.size ≤ w1.heap.size by have := Y.out; omega)).2.1 (AP.out _ (show w.heap.size ≤ w1.heap.size by have := Y.out; omega)).2.2)
    clear m2 m2' m3' e1' e3' i0 i1 hg2g hg2w hw6 cl zl
    obtain ⟨q0, q1, q2, q3, q4, q5, q6⟩ := row7 R26.out
    have z_ := fun k => (R26.out).free k
    have z0 := z_ 0
    have z1 := z_ 1
    have z2 := z_ 2
    have z3 := z_ 3
    have z4 := z_ 4
    have z5 := z_ 5
    have z6 := z_ 6
    have pz := put7 R26.out rfl (.bool false) (.int .i64 (0)) (.slice none 0 0) (.bool false) (.int .i64 (0)) (.bool false) (.int .i64 (0))
    have EE := Lib.hid pz.1
    have HR := Lib.hid (rins_end (d := ⟨false, 0, [], false, 0, false, 0⟩) (va := .slice none 0 0) T6.out (innI_nil _ _) (fun _ e => by cases e) pz.2 (show w.heap.size ≤ w1.heap.size by have := Y.out; omega) (AP.out _ (show w.heap.size ≤ w1.heap.size by have := Y.out; omega)).1 (AP.out _ (show w.heap.size ≤ w1.heap.size by have := Y.out; omega)).2.1 NU.out (fun e => by cases e))
    clear z_ pz
    go_wp2_with fail
    exact bodyPost_ret (v := .agg (didC (⟨false, 0, [], false, 0, false, 0⟩) (.slice none 0 0)).toArray) (by simp [results, Tryz.results97, go_sem, didC, EE.out.1, EE.out.2.1, EE.out.2.2.1, EE.out.2.2.2.1, EE.out.2.2.2.2.1, EE.out.2.2.2.2.2.1, EE.out.2.2.2.2.2.2]) rfl HR.out
set_option maxRecDepth 100000 in
set_option maxHeartbeats 8000000 in
theorem rinsDt {w W0 : World} {base g off cp : Nat} {p : List Fn} {Ap : Option Addr} {f : Frm} {v1 v2 : Value} (h : FAt w base g off f v1 v2) (hb : base ≤ w.heap.size) (hW : Below W0.heap.size W0 w) (hr : ReadsF W0 Ap p)
    {fn pc : Nat} (efn : f.fn = fn) (epc : f.pc = pc) (hfn : fn < p.length) (hpc : pc < p[fn].code.length) {kd a : Int} (hi : p[fn].code[pc] = ⟨kd, a⟩) (d : Int) (h64 : p[fn].code.length ≤ 1000) (hs : f.stack.length ≤ 1000) (h3 : 3 ≤ kd) (h9 : kd ≤ 9) (ht : 2 ≤ f.stack.length) (hall : f.stack.all isNum = true) {y : Int} (hdv : doN kd (lastN f.stack.dropLast) (lastN f.stack) = (y, true)) :
    Calls Tryz.prog 97 #[.agg #[.slice Ap p.length cp], .pointer (some ⟨g, off, none⟩), .int .i64 d] w (RInsE (⟨f.fn, (pc : Int) + 1, f.locals, f.stack.dropLast.dropLast⟩) (⟨false, 0, [], false, 0, false, 2⟩) base g off v1 v2 w) := by
  obtain ⟨w1, hw1⟩ : ∃ w1, w.alloc (.cells #[.slice Ap p.length cp] 24) = w1 := ⟨_, rfl⟩
  have b1 : Below w.heap.size w w1 := hw1 ▸ below_alloc (Below.refl _ _) _
  have b2 : Below w1.heap.size w1 (w1.alloc (.cells #[.bool false, .int .i64 0, .slice none 0 0, .bool false, .int .i64 0, .bool false, .int .i64 0] 151)) := below_alloc (Below.refl _ _) _
  have b02 := below_trans b1 b2
  have y1 : w1.heap.size = w.heap.size + 1 := by rw [← hw1]; simp
  have r1 : RowAt 24 w.heap.size [.slice Ap p.length cp] (w1.alloc (.cells #[.bool false, .int .i64 0, .slice none 0 0, .bool false, .int .i64 0, .bool false, .int .i64 0] 151)) := (hw1 ▸ RowAt.new _ _ w : RowAt 24 w.heap.size [.slice Ap p.length cp] w1).below b2
  have r2 : RowAt 151 w1.heap.size [.bool false, .int .i64 0, .slice none 0 0, .bool false, .int .i64 0, .bool false, .int .i64 0] (w1.alloc (.cells #[.bool false, .int .i64 0, .slice none 0 0, .bool false, .int .i64 0, .bool false, .int .i64 0] 151)) := RowAt.new _ _ w1
  have hpw : wrap64 ((pc : Int) + 1) = pc + 1 := by unfold wrap64; omega
  have hF := h.below b02
  have hW2 := below_trans hW b02
  obtain ⟨ad, Ac, cc, rfl, c2, c0, c1, _⟩ := code_at hr hW2 hfn hpc
  have kP := row_cell r1
  obtain ⟨m0, m1, m2, m3, fz⟩ := hF.cells
  rw [efn] at m0
  rw [epc] at m1
  rw [hi] at c0 c1
  simp only at c0 c1
  have hpl := hr.1
  have HR1 := Lib.hid r1
  have HR2 := Lib.hid r2
  have HT2 := Lib.hid (FTurn.of_below h b02)
  have HW2 := Lib.hid hW2
  have AP := Lib.hid (fun (x : Nat) (hx : w.heap.size ≤ x) => h.apart hx)
  have Y := Lib.hid (And.intro y1 (show (w1.alloc (.cells #[.bool false, .int .i64 0, .slice none 0 0, .bool false, .int .i64 0, .bool false, .int .i64 0] 151)).heap.size = w.heap.size + 2 by simp [y1]))
  have HB := Lib.hid hb
  have HPR := Lib.hid hr
  have HW := Lib.hid hW
  have HV2 := Lib.hid h.lo2
  clear y1 h hb hW hr hi r1 r2 hF hW2 fz m2 m3 b1 b2 b02 efn
  go_enter Tryz.func97, Tryz.ntmps97
  go_upto_region 1 with fail
  generalize hw2 : (w1.alloc (.cells #[.bool false, .int .i64 0, .slice none 0 0, .bool false, .int .i64 0, .bool false, .int .i64 0] 151)) = w2 at *
  clear hw1 hw2
  have b3 := below_alloc (Below.refl w2.heap.size w2) (.cells #[.int .i64 0, .int .i64 0] 62)
  have kP3 := cell_below b3 kP
  have c23 := cell_below b3 c2
  have c03 := cell_below b3 c0
  have c13 := cell_below b3 c1
  have m03 := cell_below b3 m0
  have m13 := cell_below b3 m1
  clear b3
  go_region
  clear kP3 c23 c03 c13 m03 m13 kP c0 c1 c2 m0 m1
  have b3 : Below w2.heap.size w2 (w2.alloc (.cells #[.int .i64 kd, .int .i64 a] 62)).drew := below_drw (below_alloc (Below.refl w2.heap.size w2) _)
  have rI : RowAt 62 w2.heap.size [.int .i64 kd, .int .i64 a] (w2.alloc (.cells #[.int .i64 kd, .int .i64 a] 62)).drew := RowAt.new _ _ w2
  generalize hw3 : (w2.alloc (.cells #[.int .i64 kd, .int .i64 a] 62)).drew = w3 at *
  have T3 := HT2.out.after b3
  obtain ⟨_, m1, _, _, fz⟩ := T3.at_.cells
  rw [epc] at m1
  have hz1 := fz (off + 1)
  obtain ⟨w4, hw4⟩ : ∃ w4, w3.setCell ⟨g, off + 1, none⟩ (.int .i64 ((pc : Int) + 1)) = w4 := ⟨_, rfl⟩
  have hP4 := T3.at_.put_pc ((pc : Int) + 1)
  rw [hw4] at hP4
  have T4 := Lib.hid (T3.trans hP4)
  have row4 : ∀ {t b : Nat} {cs : List Value}, RowAt t b cs w2 → w.heap.size ≤ b → RowAt t b cs w4 := fun hr hx => hP4.row (hr.below b3) (AP.out _ hx).1 (AP.out _ hx).2.1 (AP.out _ hx).2.2
  have rI4 := hP4.row rI (AP.out _ (show w.heap.size ≤ w2.heap.size by have := Y.out; omega)).1 (AP.out _ (show w.heap.size ≤ w2.heap.size by have := Y.out; omega)).2.1 (AP.out _ (show w.heap.size ≤ w2.heap.size by have := Y.out; omega)).2.2
  have R1 := Lib.hid (row4 HR1.out (Nat.le_refl _))
  have R2 := Lib.hid (row4 HR2.out (by have := Y.out; omega))
  have RI := Lib.hid rI4
  have i0 := rI4.cell (k := 0) (by simp)
  have i1 := rI4.cell (k := 1) (by simp)
  simp only [List.getElem_cons_zero, List.getElem_cons_succ] at i0 i1
  have S4 := Lib.hid (show w2.heap.size < w4.heap.size from blk_lt rI4)
  clear T3 hP4 row4 rI4 rI fz HT2 HR1 HR2
  have k0 : (kd == 0) = false := beq_eq_false_iff_ne.2 (by omega)
  have k1 : (kd == 1) = false := beq_eq_false_iff_ne.2 (by omega)
  have k2 : (kd == 2) = false := beq_eq_false_iff_ne.2 (by omega)
  have k10 : (kd == 10) = false := beq_eq_false_iff_ne.2 (by omega)
  have k11 : (kd == 11) = false := beq_eq_false_iff_ne.2 (by omega)
  have k12 : (kd == 12) = false := beq_eq_false_iff_ne.2 (by omega)
  have k13 : (kd == 13) = false := beq_eq_false_iff_ne.2 (by omega)
  have k14 : (kd == 14) = false := beq_eq_false_iff_ne.2 (by omega)
  have k15 : (kd == 15) = false := beq_eq_false_iff_ne.2 (by omega)
  have k16 : (kd == 16) = false := beq_eq_false_iff_ne.2 (by omega)
  have hdl : f.stack.dropLast.length = f.stack.length - 1 := List.length_dropLast
  have H := Lib.hid (rpop_at T4.out.at_ (show 0 < f.stack.length by omega))
  have HD := Lib.hid (rdo_any h3 h9 (lastN f.stack.dropLast) (lastN f.stack) (all_last (all_drop hall) (by omega)) (all_last hall (by omega)))
  have HT := Lib.hid (And.intro ht (And.intro hs hdl))
  rw [hdv] at HD
  clear hs ht h3 h9 hall hdl hdv
  go_wp2_with fail
  (with_reducible refine H.out.mono ?_)
  rintro e w5 ⟨u5, rfl, q⟩
  have T5 := Lib.hid (T4.out.trans q)
  have NU := Lib.hid (show ob u5 ≠ some w1.heap.size from fun e => by
    rcases q.new _ e with e | e
    · exact (AP.out _ (show w.heap.size ≤ w1.heap.size by have := Y.out; omega)).2.2 e
    · have := S4.out; have := Y.out; omega)
  have R25 := Lib.hid (q.row R2.out (AP.out _ (show w.heap.size ≤ w1.heap.size by have := Y.out; omega)).1 (AP.out _ (show w.heap.size ≤ w1.heap.size by have := Y.out; omega)).2.1 (AP.out _ (show w.heap.size ≤ w1.heap.size by have := Y.out; omega)).2.2)
  have RI5 := Lib.hid (q.row RI.out (AP.out _ (show w.heap.size ≤ w2.heap.size by have := Y.out; omega)).1 (AP.out _ (show w.heap.size ≤ w2.heap.size by have := Y.out; omega)).2.1 (AP.out _ (show w.heap.size ≤ w2.heap.size by have := Y.out; omega)).2.2)
  have NI := Lib.hid (show ob u5 ≠ some w2.heap.size from fun e => by
    rcases q.new _ e with e | e
    · exact (AP.out _ (show w.heap.size ≤ w2.heap.size by have := Y.out; omega)).2.2 e
    · have := S4.out; omega)
  have SZ := Lib.hid q.chg.size
  have H2 := Lib.hid (rpop_at q.at_ (by have := HT.out; simp only; omega))
  clear q i0 i1 H
  go_wp2_with fail
  (with_reducible refine H2.out.mono ?_)
  rintro e w6 ⟨u6, rfl, q⟩
  have T6 := Lib.hid (T5.out.trans q)
  have NU6 := Lib.hid (show ob u6 ≠ some w1.heap.size from fun e => by
    rcases q.new _ e with e | e
    · exact NU.out e
    · have := S4.out; have := Y.out; have := SZ.out; omega)
  have R26 := Lib.hid (q.row R25.out (AP.out _ (show w.heap.size ≤ w1.heap.size by have := Y.out; omega)).1 (AP.out _ (show w.heap.size ≤ w1.heap.size by have := Y.out; omega)).2.1 NU.out)
  have RI6 := Lib.hid (q.row RI5.out (AP.out _ (show w.heap.size ≤ w2.heap.size by have := Y.out; omega)).1 (AP.out _ (show w.heap.size ≤ w2.heap.size by have := Y.out; omega)).2.1 NI.out)
  have HB6 := Lib.hid (show base ≤ w6.heap.size from Nat.le_trans HB.out T6.out.chg.size)
  have SZ6 := Lib.hid q.chg.size
  have e0 := RI6.out.cell (k := 0) (by simp)
  simp only [List.getElem_cons_zero] at e0
  clear q H2
  have HDY := Lib.hid (HD.out w6)
  clear HD
  go_wp2_with fail
  (with_reducible refine HDY.out.mono ?_)
  rintro e w7 ⟨rfl, eW⟩
  subst w7
  clear e0
  obtain ⟨q0, q1, q2, q3, q4, q5, q6⟩ := row7 R26.out
  have z_ := fun k => (R26.out).free k
  have z0 := z_ 0
  have z1 := z_ 1
  have z2 := z_ 2
  have z3 := z_ 3
  have z4 := z_ 4
  have z5 := z_ 5
  have z6 := z_ 6
  have pz := put7 R26.out rfl (.bool false) (.int .i64 (0)) (.slice none 0 0) (.bool false) (.int .i64 (0)) (.bool false) (.int .i64 (2))
  have EE := Lib.hid pz.1
  have HR := Lib.hid (rins_end (d := ⟨false, 0, [], false, 0, false, 2⟩) (va := .slice none 0 0) T6.out (innI_nil _ _) (fun _ e => by cases e) pz.2 (show w.heap.size ≤ w1.heap.size by have := Y.out; omega) (AP.out _ (show w.heap.size ≤ w1.heap.size by have := Y.out; omega)).1 (AP.out _ (show w.heap.size ≤ w1.heap.size by have := Y.out; omega)).2.1 NU6.out (fun e => by cases e))
  clear z_ pz
  go_wp2_with fail
  exact bodyPost_ret (v := .agg (didC (⟨false, 0, [], false, 0, false, 2⟩) (.slice none 0 0)).toArray) (by simp [results, Tryz.results97, go_sem, didC, EE.out.1, EE.out.2.1, EE.out.2.2.1, EE.out.2.2.2.1, EE.out.2.2.2.2.1, EE.out.2.2.2.2.2.1, EE.out.2.2.2.2.2.2]) rfl HR.out
set_option maxRecDepth 100000 in
set_option maxHeartbeats 8000000 in
theorem rinsDn {w W0 : World} {base g off cp : Nat} {p : List Fn} {Ap : Option Addr} {f : Frm} {v1 v2 : Value} (h : FAt w base g off f v1 v2) (hb : base ≤ w.heap.size) (hW : Below W0.heap.size W0 w) (hr : ReadsF W0 Ap p)
    {fn pc : Nat} (efn : f.fn = fn) (epc : f.pc = pc) (hfn : fn < p.length) (hpc : pc < p[fn].code.length) {kd a : Int} (hi : p[fn].code[pc] = ⟨kd, a⟩) (d : Int) (h64 : p[fn].code.length ≤ 1000) (hs : f.stack.length ≤ 1000) (h3 : 3 ≤ kd) (h9 : kd ≤ 9) (ht : 2 ≤ f.stack.length) (hall : f.stack.all isNum = true) {y : Int} (hdv : doN kd (lastN f.stack.dropLast) (lastN f.stack) = (y, false)) :
    Calls Tryz.prog 97 #[.agg #[.slice Ap p.length cp], .pointer (some ⟨g, off, none⟩), .int .i64 d] w (RInsE (⟨f.fn, (pc : Int) + 1, f.locals, f.stack.dropLast.dropLast ++ [y]⟩) (⟨false, 0, [], false, 0, false, 0⟩) base g off v1 v2 w) := by
  obtain ⟨w1, hw1⟩ : ∃ w1, w.alloc (.cells #[.slice Ap p.length cp] 24) = w1 := ⟨_, rfl⟩
  have b1 : Below w.heap.size w w1 := hw1 ▸ below_alloc (Below.refl _ _) _
  have b2 : Below w1.heap.size w1 (w1.alloc (.cells #[.bool false, .int .i64 0, .slice none 0 0, .bool false, .int .i64 0, .bool false, .int .i64 0] 151)) := below_alloc (Below.refl _ _) _
  have b02 := below_trans b1 b2
  have y1 : w1.heap.size = w.heap.size + 1 := by rw [← hw1]; simp
  have r1 : RowAt 24 w.heap.size [.slice Ap p.length cp] (w1.alloc (.cells #[.bool false, .int .i64 0, .slice none 0 0, .bool false, .int .i64 0, .bool false, .int .i64 0] 151)) := (hw1 ▸ RowAt.new _ _ w : RowAt 24 w.heap.size [.slice Ap p.length cp] w1).below b2
  have r2 : RowAt 151 w1.heap.size [.bool false, .int .i64 0, .slice none 0 0, .bool false, .int .i64 0, .bool false, .int .i64 0] (w1.alloc (.cells #[.bool false, .int .i64 0, .slice none 0 0, .bool false, .int .i64 0, .bool false, .int .i64 0] 151)) := RowAt.new _ _ w1
  have hpw : wrap64 ((pc : Int) + 1) = pc + 1 := by unfold wrap64; omega
  have hF := h.below b02
  have hW2 := below_trans hW b02
  obtain ⟨ad, Ac, cc, rfl, c2, c0, c1, _⟩ := code_at hr hW2 hfn hpc
  have kP := row_cell r1
  obtain ⟨m0, m1, m2, m3, fz⟩ := hF.cells
  rw [efn] at m0
  rw [epc] at m1
  rw [hi] at c0 c1
  simp only at c0 c1
  have hpl := hr.1
  have HR1 := Lib.hid r1
  have HR2 := Lib.hid r2
  have HT2 := Lib.hid (FTurn.of_below h b02)
  have HW2 := Lib.hid hW2
  have AP := Lib.hid (fun (x : Nat) (hx : w.heap.size ≤ x) => h.apart hx)
  have Y := Lib.hid (And.intro y1 (show (w1.alloc (.cells #[.bool false, .int .i64 0, .slice none 0 0, .bool false, .int .i64 0, .bool false, .int .i64 0] 151)).heap.size = w.heap.size + 2 by simp [y1]))
  have HB := Lib.hid hb
  have HPR := Lib.hid hr
  have HW := Lib.hid hW
  have HV2 := Lib.hid h.lo2
  clear y1 h hb hW hr hi r1 r2 hF hW2 fz m2 m3 b1 b2 b02 efn
  go_enter Tryz.func97, Tryz.ntmps97
  go_upto_region 1 with fail
  generalize hw2 : (w1.alloc (.cells #[.bool false, .int .i64 0, .slice none 0 0, .bool false, .int .i64 0, .bool false, .int .i64 0] 151)) = w2 at *
  clear hw1 hw2
  have b3 := below_alloc (Below.refl w2.heap.size w2) (.cells #[.int .i64 0, .int .i64 0] 62)
  have kP3 := cell_below b3 kP
  have c23 := cell_below b3 c2
  have c03 := cell_below b3 c0
  have c13 := cell_below b3 c1
  have m03 := cell_below b3 m0
  have m13 := cell_below b3 m1
  clear b3
  go_region
  clear kP3 c23 c03 c13 m03 m13 kP c0 c1 c2 m0 m1
  have b3 : Below w2.heap.size w2 (w2.alloc (.cells #[.int .i64 kd, .int .i64 a] 62)).drew := below_drw (below_alloc (Below.refl w2.heap.size w2) _)
  have rI : RowAt 62 w2.heap.size [.int .i64 kd, .int .i64 a] (w2.alloc (.cells #[.int .i64 kd, .int .i64 a] 62)).drew := RowAt.new _ _ w2
  generalize hw3 : (w2.alloc (.cells #[.int .i64 kd, .int .i64 a] 62)).drew = w3 at *
  have T3 := HT2.out.after b3
  obtain ⟨_, m1, _, _, fz⟩ := T3.at_.cells
  rw [epc] at m1
  have hz1 := fz (off + 1)
  obtain ⟨w4, hw4⟩ : ∃ w4, w3.setCell ⟨g, off + 1, none⟩ (.int .i64 ((pc : Int) + 1)) = w4 := ⟨_, rfl⟩
  have hP4 := T3.at_.put_pc ((pc : Int) + 1)
  rw [hw4] at hP4
  have T4 := Lib.hid (T3.trans hP4)
  have row4 : ∀ {t b : Nat} {cs : List Value}, RowAt t b cs w2 → w.heap.size ≤ b → RowAt t b cs w4 := fun hr hx => hP4.row (hr.below b3) (AP.out _ hx).1 (AP.out _ hx).2.1 (AP.out _ hx).2.2
  have rI4 := hP4.row rI (AP.out _ (show w.heap.size ≤ w2.heap.size by have := Y.out; omega)).1 (AP.out _ (show w.heap.size ≤ w2.heap.size by have := Y.out; omega)).2.1 (AP.out _ (show w.heap.size ≤ w2.heap.size by have := Y.out; omega)).2.2
  have R1 := Lib.hid (row4 HR1.out (Nat.le_refl _))
  have R2 := Lib.hid (row4 HR2.out (by have := Y.out; omega))
  have RI := Lib.hid rI4
  have i0 := rI4.cell (k := 0) (by simp)
  have i1 := rI4.cell (k := 1) (by simp)
  simp only [List.getElem_cons_zero, List.getElem_cons_succ] at i0 i1
  have S4 := Lib.hid (show w2.heap.size < w4.heap.size from blk_lt rI4)
  clear T3 hP4 row4 rI4 rI fz HT2 HR1 HR2
  have k0 : (kd == 0) = false := beq_eq_false_iff_ne.2 (by omega)
  have k1 : (kd == 1) = false := beq_eq_false_iff_ne.2 (by omega)
  have k2 : (kd == 2) = false := beq_eq_false_iff_ne.2 (by omega)
  have k10 : (kd == 10) = false := beq_eq_false_iff_ne.2 (by omega)
  have k11 : (kd == 11) = false := beq_eq_false_iff_ne.2 (by omega)
  have k12 : (kd == 12) = false := beq_eq_false_iff_ne.2 (by omega)
  have k13 : (kd == 13) = false := beq_eq_false_iff_ne.2 (by omega)
  have k14 : (kd == 14) = false := beq_eq_false_iff_ne.2 (by omega)
  have k15 : (kd == 15) = false := beq_eq_false_iff_ne.2 (by omega)
  have k16 : (kd == 16) = false := beq_eq_false_iff_ne.2 (by omega)
  have hdl : f.stack.dropLast.length = f.stack.length - 1 := List.length_dropLast
  have H := Lib.hid (rpop_at T4.out.at_ (show 0 < f.stack.length by omega))
  have HD := Lib.hid (rdo_any h3 h9 (lastN f.stack.dropLast) (lastN f.stack) (all_last (all_drop hall) (by omega)) (all_last hall (by omega)))
  have HT := Lib.hid (And.intro ht (And.intro hs hdl))
  rw [hdv] at HD
  clear hs ht h3 h9 hall hdl hdv
  go_wp2_with fail
  (with_reducible refine H.out.mono ?_)
  rintro e w5 ⟨u5, rfl, q⟩
  have T5 := Lib.hid (T4.out.trans q)
  have NU := Lib.hid (show ob u5 ≠ some w1.heap.size from fun e => by
    rcases q.new _ e with e | e
    · exact (AP.out _ (show w.heap.size ≤ w1.heap.size by have := Y.out; omega)).2.2 e
    · have := S4.out; have := Y.out; omega)
  have R25 := Lib.hid (q.row R2.out (AP.out _ (show w.heap.size ≤ w1.heap.size by have := Y.out; omega)).1 (AP.out _ (show w.heap.size ≤ w1.heap.size by have := Y.out; omega)).2.1 (AP.out _ (show w.heap.size ≤ w1.heap.size by have := Y.out; omega)).2.2)
  have RI5 := Lib.hid (q.row RI.out (AP.out _ (show w.heap.size ≤ w2.heap.size by have := Y.out; omega)).1 (AP.out _ (show w.heap.size ≤ w2.heap.size by have := Y.out; omega)).2.1 (AP.out _ (show w.heap.size ≤ w2.heap.size by have := Y.out; omega)).2.2)
  have NI := Lib.hid (show ob u5 ≠ some w2.heap.size from fun e => by
    rcases q.new _ e with e | e
    · exact (AP.out _ (show w.heap.size ≤ w2.heap.size by have := Y.out; omega)).2.2 e
    · have := S4.out; omega)
  have SZ := Lib.hid q.chg.size
  have H2 := Lib.hid (rpop_at q.at_ (by have := HT.out; simp only; omega))
  clear q i0 i1 H
  go_wp2_with fail
  (with_reducible refine H2.out.mono ?_)
  rintro e w6 ⟨u6, rfl, q⟩
  have T6 := Lib.hid (T5.out.trans q)
  have NU6 := Lib.hid (show ob u6 ≠ some w1.heap.size from fun e => by
    rcases q.new _ e with e | e
    · exact NU.out e
    · have := S4.out; have := Y.out; have := SZ.out; omega)
  have R26 := Lib.hid (q.row R25.out (AP.out _ (show w.heap.size ≤ w1.heap.size by have := Y.out; omega)).1 (AP.out _ (show w.heap.size ≤ w1.heap.size by have := Y.out; omega)).2.1 NU.out)
  have RI6 := Lib.hid (q.row RI5.out (AP.out _ (show w.heap.size ≤ w2.heap.size by have := Y.out; omega)).1 (AP.out _ (show w.heap.size ≤ w2.heap.size by have := Y.out; omega)).2.1 NI.out)
  have HB6 := Lib.hid (show base ≤ w6.heap.size from Nat.le_trans HB.out T6.out.chg.size)
  have SZ6 := Lib.hid q.chg.size
  have e0 := RI6.out.cell (k := 0) (by simp)
  simp only [List.getElem_cons_zero] at e0
  clear q H2
  have HDY := Lib.hid (HD.out w6)
  clear HD
  go_wp2_with fail
  (with_reducible refine HDY.out.mono ?_)
  rintro e w7 ⟨rfl, eW⟩
  subst w7
  clear e0
  have H3 := Lib.hid (rpush_at T6.out.at_ HB6.out (by have := HT.out; simp; omega) y)
  go_wp2_with fail
  (with_reducible refine H3.out.mono ?_)
  rintro e w7 ⟨u7, rfl, q⟩
  have T7 := Lib.hid (T6.out.trans q)
  have NU7 := Lib.hid (show ob u7 ≠ some w1.heap.size from fun e => by
    rcases q.new _ e with e | e
    · exact NU6.out e
    · have := S4.out; have := Y.out; have := SZ.out; have := SZ6.out; omega)
  have R27 := Lib.hid (q.row R26.out (AP.out _ (show w.heap.size ≤ w1.heap.size by have := Y.out; omega)).1 (AP.out _ (show w.heap.size ≤ w1.heap.size by have := Y.out; omega)).2.1 NU6.out)
  clear q
  obtain ⟨q0, q1, q2, q3, q4, q5, q6⟩ := row7 R27.out
  have z_ := fun k => (R27.out).free k
  have z0 := z_ 0
  have z1 := z_ 1
  have z2 := z_ 2
  have z3 := z_ 3
  have z4 := z_ 4
  have z5 := z_ 5
  have z6 := z_ 6
  have pz := put7 R27.out rfl (.bool false) (.int .i64 (0)) (.slice none 0 0) (.bool false) (.int .i64 (0)) (.bool false) (.int .i64 (0))
  have EE := Lib.hid pz.1
  have HR := Lib.hid (rins_end (d := ⟨false, 0, [], false, 0, false, 0⟩) (va := .slice none 0 0) T7.out (innI_nil _ _) (fun _ e => by cases e) pz.2 (show w.heap.size ≤ w1.heap.size by have := Y.out; omega) (AP.out _ (show w.heap.size ≤ w1.heap.size by have := Y.out; omega)).1 (AP.out _ (show w.heap.size ≤ w1.heap.size by have := Y.out; omega)).2.1 NU7.out (fun e => by cases e))
  clear z_ pz
  go_wp2_with fail
  exact bodyPost_ret (v := .agg (didC (⟨false, 0, [], false, 0, false, 0⟩) (.slice none 0 0)).toArray) (by simp [results, Tryz.results97, go_sem, didC, EE.out.1, EE.out.2.1, EE.out.2.2.1, EE.out.2.2.2.1, EE.out.2.2.2.2.1, EE.out.2.2.2.2.2.1, EE.out.2.2.2.2.2.2]) rfl HR.out
end Go.Proofs.YtpfgklkdldkajaaGreatDoor
