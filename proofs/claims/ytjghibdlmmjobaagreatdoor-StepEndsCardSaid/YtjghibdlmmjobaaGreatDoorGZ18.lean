/- The simple instructions: what they turn. Conditions: the frames are the call's own; the instruction finds what it takes. 'step.simple': an instruction that neither goes elsewhere nor tells, on a frame at a place. Conditions: the frame is the call's own; the instruction finds what it takes. 'step.call': a call takes its args off a frame at a place. Conditions: the frame is the call's own; the program lies in older memory; the stack holds the args. -/
import Derived.Test.YtjghibdlmmjobaaGreatDoorGZ17
import Derived.Test.YtjghibdlmmjobaaGreatDoorGZ15
import Derived.StillTailTactics
import Derived.Deep.RegionHeld3
import Derived.Test.YtjghibdlmmjobaaGreatDoorGZ14
namespace Go.Proofs.YtjghibdlmmjobaaGreatDoor
open Go.RowKit

/-- A simple instruction of a frame whose pc has gone on; is it a trap? -/
def simF (f : Frm) (x : Ins) : Frm × Bool :=
  if x.kind = 0 then (⟨f.fn, f.pc, f.locals, f.stack ++ [x.a]⟩, false)
  else if x.kind = 1 then (⟨f.fn, f.pc, f.locals, f.stack ++ [f.locals.getD x.a.toNat 0]⟩, false)
  else if x.kind = 2 then (⟨f.fn, f.pc, f.locals.set x.a.toNat (lastN f.stack), f.stack.dropLast⟩, false)
  else if x.kind = 10 then (⟨f.fn, f.pc, f.locals, f.stack ++ [lastN f.stack]⟩, false)
  else if x.kind = 11 then (⟨f.fn, f.pc, f.locals, f.stack.dropLast⟩, false)
  else
    let d := doN x.kind (lastN f.stack.dropLast) (lastN f.stack)
    if d.2 = true then (⟨f.fn, f.pc, f.locals, f.stack.dropLast.dropLast⟩, true) else (⟨f.fn, f.pc, f.locals, f.stack.dropLast.dropLast ++ [d.1]⟩, false)
theorem one_sim {p : List Fn} {f : Frm} {x : Ins} {d : Nat} (h : ¬ (12 ≤ x.kind ∧ x.kind ≤ 16)) : oneI p f x d = ((simF ⟨f.fn, f.pc + 1, f.locals, f.stack⟩ x).1, if (simF ⟨f.fn, f.pc + 1, f.locals, f.stack⟩ x).2 = true then .over 2 else .next) := by
  unfold oneI simF
  by_cases c0 : x.kind = 0
  · rw [if_pos c0, if_pos c0]; rfl
  rw [if_neg c0, if_neg c0]
  by_cases c1 : x.kind = 1
  · rw [if_pos c1, if_pos c1]; rfl
  rw [if_neg c1, if_neg c1]
  by_cases c2 : x.kind = 2
  · rw [if_pos c2, if_pos c2]; rfl
  rw [if_neg c2, if_neg c2]
  by_cases c10 : x.kind = 10
  · rw [if_pos c10, if_pos c10]; rfl
  rw [if_neg c10, if_neg c10]
  by_cases c11 : x.kind = 11
  · rw [if_pos c11, if_pos c11]; rfl
  rw [if_neg c11, if_neg c11, if_neg (by omega), if_neg (by omega), if_neg (by omega), if_neg (by omega), if_neg (by omega)]
  simp only
  split <;> rfl
/-- What a state that ends ends by. -/
def outcomeN (k : Int) : Int := if k = 2 then 1 else if k = 3 then 2 else if k = 4 then 3 else 4
theorem outcome_any (k : Int) (w : World) : Calls Tryz.prog 132 #[.int .i64 k] w fun e w' => e = .returned (.int .i64 (outcomeN k)) ∧ w' = w := by
  by_cases c2 : k = 2
  · subst c2
    go_enter Tryz.func132, Tryz.ntmps132
    go_wp2
    go_ret
    exact ⟨rfl, rfl⟩
  by_cases c3 : k = 3
  · subst c3
    go_enter Tryz.func132, Tryz.ntmps132
    go_wp2
    go_ret
    exact ⟨rfl, rfl⟩
  by_cases c4 : k = 4
  · subst c4
    go_enter Tryz.func132, Tryz.ntmps132
    go_wp2
    go_ret
    exact ⟨rfl, rfl⟩
  have HE := Lib.hid (show outcomeN k = 4 by unfold outcomeN; rw [if_neg c2, if_neg c3, if_neg c4])
  have d2 : (k == 2) = false := by simpa using c2
  have d3 : (k == 3) = false := by simpa using c3
  have d4 : (k == 4) = false := by simpa using c4
  clear c2 c3 c4
  go_enter Tryz.func132, Tryz.ntmps132
  go_wp2
  go_ret
  exact ⟨by rw [HE.out]; rfl, rfl⟩
end Go.Proofs.YtjghibdlmmjobaaGreatDoor

namespace Go.Proofs.YtjghibdlmmjobaaGreatDoor
open Go.RowKit

/-- A call that turns one frame at a place, and tells of a trap. -/
def SimL (r : Frm × Bool) (base g off : Nat) (v1 v2 : Value) (xb : Nat) (cs : List Value) (w : World) (e : Ending) (w' : World) : Prop :=
  ∃ u, e = .returned (.tuple #[]) ∧ FAt w' base g off r.1 v1 u ∧ Chg (fun b => (b = g ∨ ob v1 = some b ∨ ob v2 = some b) ∨ b = xb) w w' ∧ Blk4 w w' g off ∧ (∀ b, ob u = some b → ob v2 = some b ∨ w.heap.size ≤ b) ∧ RowAt 95 xb (if r.2 = true then cs.set 0 (.int .i64 3) else cs) w'
section
variable {w w1 : World} {base g off xb : Nat} {f f1 : Frm} {v1 v2 u : Value} {cs : List Value}
theorem SimL.mk (ht : FTurn w w1 base g off f1 v1 v2 u) (hx : RowAt 95 xb cs w) (ng : xb ≠ g) (n1 : ob v1 ≠ some xb) (n2 : ob v2 ≠ some xb) : SimL (f1, false) base g off v1 v2 xb cs w (.returned (.tuple #[])) w1 :=
  ⟨u, rfl, ht.at_, ht.chg.mono (fun _ h => .inl h), ht.blk, ht.new, ht.row hx ng n1 n2⟩
/-- A trap is told behind the turn. -/
theorem SimL.trap (ht : FTurn w w1 base g off f1 v1 v2 u) (hx : RowAt 95 xb cs w) (ng : xb ≠ g) (n1 : ob v1 ≠ some xb) (n2 : ob v2 ≠ some xb) : SimL (f1, true) base g off v1 v2 xb cs w (.returned (.tuple #[])) (w1.setCell ⟨xb, 0, none⟩ (.int .i64 3)) := by
  have hr := ht.row hx ng n1 n2
  have kc : Chg (fun b => b = xb) w1 (w1.setCell ⟨xb, 0, none⟩ (.int .i64 3)) := Chg.put (S := fun b => b = xb) (Chg.refl _ w1) (a := ⟨xb, 0, none⟩) rfl _
  have nu : ob u ≠ some xb := fun e => by
    rcases ht.new xb e with e | e
    · exact n2 e
    · have := blk_lt hx; omega
  refine ⟨u, rfl, ht.at_.chg kc (fun e => ng e.symm) (fun b e e2 => n1 (e2 ▸ e)) (fun b e e2 => nu (e2 ▸ e)), (ht.chg.mono (fun _ h => .inl h)).trans kc (fun _ _ h => .inr h), ht.blk.trans (Blk4.of_chg kc (fun e => ng e.symm)), ht.new, hr.put 0 _⟩
end

set_option maxRecDepth 100000 in
set_option maxHeartbeats 8000000 in
theorem lsimple0 {w : World} {base g off xb : Nat} {f : Frm} {v1 v2 : Value} {cs : List Value} (h : FAt w base g off f v1 v2) (hb : base ≤ w.heap.size) (hx : RowAt 95 xb cs w) (ng : xb ≠ g) (n1 : ob v1 ≠ some xb) (n2 : ob v2 ≠ some xb) (hs : f.stack.length ≤ 1000) (a : Int) :
    Calls Tryz.prog 175 #[.pointer (some ⟨g, off, none⟩), .pointer (some ⟨xb, 0, none⟩), .agg #[.int .i64 0, .int .i64 a]] w (SimL (simF f ⟨0, a⟩) base g off v1 v2 xb cs w) := by
  obtain ⟨w0, hw0⟩ : ∃ w0, w.alloc (.cells #[.int .i64 0, .int .i64 a] 48) = w0 := ⟨_, rfl⟩
  have b0 : Below w.heap.size w w0 := hw0 ▸ below_alloc (Below.refl _ _) _
  have r0 : RowAt 48 w.heap.size [.int .i64 0, .int .i64 a] w0 := hw0 ▸ RowAt.new _ _ w
  have e0 := r0.cell (k := 0) (by simp)
  have e1 := r0.cell (k := 1) (by simp)
  simp only [List.getElem_cons_zero, List.getElem_cons_succ] at e0 e1
  have O := Lib.hid (FTurn.of_below h b0)
  have hb0 : base ≤ w0.heap.size := Nat.le_trans hb b0.size
  have HX := Lib.hid (And.intro hx (And.intro ng (And.intro n1 n2)))
  have H := Lib.hid (push_at O.out.at_ hb0 hs a)
  clear h hs hx ng n1 n2 b0 r0 hb hb0
  go_enter Tryz.func175, Tryz.ntmps175
  go_wp2_with fail
  (with_reducible refine H.out.mono ?_)
  rintro e w1 ⟨u, rfl, h1⟩
  have HR := Lib.hid (SimL.mk (O.out.trans h1) HX.out.1 HX.out.2.1 HX.out.2.2.1 HX.out.2.2.2)
  clear h1
  go_wp2_with fail
  go_end0
  exact HR.out

set_option maxRecDepth 100000 in
set_option maxHeartbeats 8000000 in
theorem lsimple11 {w : World} {base g off xb : Nat} {f : Frm} {v1 v2 : Value} {cs : List Value} (h : FAt w base g off f v1 v2) (hb : base ≤ w.heap.size) (hx : RowAt 95 xb cs w) (ng : xb ≠ g) (n1 : ob v1 ≠ some xb) (n2 : ob v2 ≠ some xb) (a : Int) (ht : 0 < f.stack.length) :
    Calls Tryz.prog 175 #[.pointer (some ⟨g, off, none⟩), .pointer (some ⟨xb, 0, none⟩), .agg #[.int .i64 11, .int .i64 a]] w (SimL (simF f ⟨11, a⟩) base g off v1 v2 xb cs w) := by
  obtain ⟨w0, hw0⟩ : ∃ w0, w.alloc (.cells #[.int .i64 11, .int .i64 a] 48) = w0 := ⟨_, rfl⟩
  have b0 : Below w.heap.size w w0 := hw0 ▸ below_alloc (Below.refl _ _) _
  have r0 : RowAt 48 w.heap.size [.int .i64 11, .int .i64 a] w0 := hw0 ▸ RowAt.new _ _ w
  have e0 := r0.cell (k := 0) (by simp)
  have e1 := r0.cell (k := 1) (by simp)
  simp only [List.getElem_cons_zero, List.getElem_cons_succ] at e0 e1
  have O := Lib.hid (FTurn.of_below h b0)
  have hb0 : base ≤ w0.heap.size := Nat.le_trans hb b0.size
  have HX := Lib.hid (And.intro hx (And.intro ng (And.intro n1 n2)))
  have H := Lib.hid (pop_at O.out.at_ ht)
  clear h hx ng n1 n2 b0 r0 hb hb0 ht
  go_enter Tryz.func175, Tryz.ntmps175
  go_wp2_with fail
  (with_reducible refine H.out.mono ?_)
  rintro e w1 ⟨u, rfl, h1⟩
  have HR := Lib.hid (SimL.mk (O.out.trans h1) HX.out.1 HX.out.2.1 HX.out.2.2.1 HX.out.2.2.2)
  clear h1
  go_wp2_with fail
  go_end0
  exact HR.out

set_option maxRecDepth 100000 in
set_option maxHeartbeats 8000000 in
theorem lsimpleD {w : World} {base g off xb : Nat} {f : Frm} {v1 v2 : Value} {cs : List Value} (h : FAt w base g off f v1 v2) (hb : base ≤ w.heap.size) (hx : RowAt 95 xb cs w) (ng : xb ≠ g) (n1 : ob v1 ≠ some xb) (n2 : ob v2 ≠ some xb) (hs : f.stack.length ≤ 1000) (a kd : Int) (h3 : 3 ≤ kd) (h9 : kd ≤ 9) (ht : 2 ≤ f.stack.length) (hall : f.stack.all isNum = true) (hcs : 0 < cs.length) :
    Calls Tryz.prog 175 #[.pointer (some ⟨g, off, none⟩), .pointer (some ⟨xb, 0, none⟩), .agg #[.int .i64 kd, .int .i64 a]] w (SimL (simF f ⟨kd, a⟩) base g off v1 v2 xb cs w) := by
  obtain ⟨w0, hw0⟩ : ∃ w0, w.alloc (.cells #[.int .i64 kd, .int .i64 a] 48) = w0 := ⟨_, rfl⟩
  have b0 : Below w.heap.size w w0 := hw0 ▸ below_alloc (Below.refl _ _) _
  have r0 : RowAt 48 w.heap.size [.int .i64 kd, .int .i64 a] w0 := hw0 ▸ RowAt.new _ _ w
  have e0 := r0.cell (k := 0) (by simp)
  have e1 := r0.cell (k := 1) (by simp)
  simp only [List.getElem_cons_zero, List.getElem_cons_succ] at e0 e1
  have O := Lib.hid (FTurn.of_below h b0)
  have hb0 : base ≤ w0.heap.size := Nat.le_trans hb b0.size
  have HX := Lib.hid (And.intro hx (And.intro ng (And.intro n1 n2)))
  have hdl : f.stack.dropLast.length = f.stack.length - 1 := List.length_dropLast
  have H := Lib.hid (pop_at O.out.at_ (by omega))
  have HD := Lib.hid (do_any h3 h9 (lastN f.stack.dropLast) (lastN f.stack) (all_last (all_drop hall) (by omega)) (all_last hall (by omega)))
  have k0 : (kd == 0) = false := beq_eq_false_iff_ne.2 (by omega)
  have k1 : (kd == 1) = false := beq_eq_false_iff_ne.2 (by omega)
  have k2 : (kd == 2) = false := beq_eq_false_iff_ne.2 (by omega)
  have k10 : (kd == 10) = false := beq_eq_false_iff_ne.2 (by omega)
  have k11 : (kd == 11) = false := beq_eq_false_iff_ne.2 (by omega)
  have HSF := Lib.hid (show simF f ⟨kd, a⟩ = (if (doN kd (lastN f.stack.dropLast) (lastN f.stack)).2 = true then (⟨f.fn, f.pc, f.locals, f.stack.dropLast.dropLast⟩, true) else (⟨f.fn, f.pc, f.locals, f.stack.dropLast.dropLast ++ [(doN kd (lastN f.stack.dropLast) (lastN f.stack)).1]⟩, false)) by
    unfold simF
    rw [if_neg (by simp; omega), if_neg (by simp; omega), if_neg (by simp; omega), if_neg (by simp; omega), if_neg (by simp; omega)])
  have far : ∀ b, (b = g ∨ ob v1 = some b ∨ ob v2 = some b) → b < w.heap.size := fun b hb => by
    rcases hb with e | e | e
    · exact e ▸ h.lt
    · exact (h.lo1 b e).2
    · exact (h.lo2 b e).2
  have FAR := Lib.hid far
  have R0 := Lib.hid r0
  have HT := Lib.hid (And.intro ht (And.intro hs hdl))
  have HB := Lib.hid hb0
  have HCS := Lib.hid hcs
  clear h hs hx ng n1 n2 b0 r0 ht h3 h9 hall far hdl hb hb0 hcs
  go_enter Tryz.func175, Tryz.ntmps175
  go_wp2_with fail
  (with_reducible refine H.out.mono ?_)
  rintro e w1 ⟨u1, rfl, p1⟩
  have H2 := Lib.hid (pop_at p1.at_ (by have := HT.out; simp only; omega))
  have P1 := Lib.hid (O.out.trans p1)
  have HB1 := Lib.hid (show base ≤ w1.heap.size from Nat.le_trans HB.out p1.chg.size)
  have Q1 := Lib.hid p1.chg
  have PN := Lib.hid p1.new
  clear p1 H e0 e1 hw0
  go_wp2_with fail
  (with_reducible refine H2.out.mono ?_)
  rintro e w2 ⟨u2, rfl, q1⟩
  have hT := P1.out.trans q1
  have T := Lib.hid hT
  have hbx : ¬ (w.heap.size = g ∨ ob v1 = some w.heap.size ∨ ob v2 = some w.heap.size) := fun hb => Nat.lt_irrefl _ (FAR.out _ hb)
  have c12 : Chg (fun b => b = g ∨ ob v1 = some b ∨ ob v2 = some b) w0 w2 := Q1.out.trans q1.chg (fun i hi e => by
    rcases e with e | e | e
    · exact .inl e
    · exact .inr (.inl e)
    · exact .inr (.inr ((PN.out i e).resolve_right (by omega))))
  have r2 := R0.out.chg c12 hbx
  have e0 := r2.cell (k := 0) (by simp)
  simp only [List.getElem_cons_zero] at e0
  have HB2 := Lib.hid (show base ≤ w2.heap.size from Nat.le_trans HB1.out q1.chg.size)
  have rx := hT.row HX.out.1 HX.out.2.1 HX.out.2.2.1 HX.out.2.2.2
  have cx := rx.cell (k := 0) HCS.out
  have zx := rx.free 0
  clear q1 hT hbx r2 H2 rx c12
  obtain ⟨dv, hdv⟩ : ∃ dv, doN kd (lastN f.stack.dropLast) (lastN f.stack) = dv := ⟨_, rfl⟩
  rw [hdv] at HD HSF
  clear hdv
  obtain ⟨y, t⟩ := dv
  have HDY := Lib.hid (HD.out w2)
  clear HD
  go_wp2_with fail
  (with_reducible refine HDY.out.mono ?_)
  rintro e w3 ⟨rfl, eW⟩
  subst w3
  cases t with
  | true =>
    have HR := Lib.hid (show SimL (simF f ⟨kd, a⟩) base g off v1 v2 xb cs w (.returned (.tuple #[])) (w2.setCell ⟨xb, 0, none⟩ (.int .i64 3)) from by
      rw [HSF.out]
      exact SimL.trap T.out HX.out.1 HX.out.2.1 HX.out.2.2.1 HX.out.2.2.2)
    go_wp2_with fail
    go_end0
    exact HR.out
  | false =>
    have H3 := Lib.hid (push_at T.out.at_ HB2.out (by have := HT.out; simp; omega) y)
    go_wp2_with fail
    (with_reducible refine H3.out.mono ?_)
    rintro e w4 ⟨u3, rfl, q1⟩
    have HR := Lib.hid (show SimL (simF f ⟨kd, a⟩) base g off v1 v2 xb cs w (.returned (.tuple #[])) w4 from by
      rw [HSF.out]
      exact SimL.mk (T.out.trans q1) HX.out.1 HX.out.2.1 HX.out.2.2.1 HX.out.2.2.2)
    clear q1
    go_wp2_with fail
    go_end0
    exact HR.out

set_option maxRecDepth 100000 in
set_option maxHeartbeats 8000000 in
theorem lsimple1 {w : World} {base g off xb : Nat} {f : Frm} {v1 v2 : Value} {cs : List Value} (h : FAt w base g off f v1 v2) (hb : base ≤ w.heap.size) (hx : RowAt 95 xb cs w) (ng : xb ≠ g) (n1 : ob v1 ≠ some xb) (n2 : ob v2 ≠ some xb) (hs : f.stack.length ≤ 1000) (j : Nat) (hj : j < f.locals.length) :
    Calls Tryz.prog 175 #[.pointer (some ⟨g, off, none⟩), .pointer (some ⟨xb, 0, none⟩), .agg #[.int .i64 1, .int .i64 j]] w (SimL (simF f ⟨1, j⟩) base g off v1 v2 xb cs w) := by
  obtain ⟨w0, hw0⟩ : ∃ w0, w.alloc (.cells #[.int .i64 1, .int .i64 j] 48) = w0 := ⟨_, rfl⟩
  have b0 : Below w.heap.size w w0 := hw0 ▸ below_alloc (Below.refl _ _) _
  have r0 : RowAt 48 w.heap.size [.int .i64 1, .int .i64 j] w0 := hw0 ▸ RowAt.new _ _ w
  have e0 := r0.cell (k := 0) (by simp)
  have e1 := r0.cell (k := 1) (by simp)
  simp only [List.getElem_cons_zero, List.getElem_cons_succ] at e0 e1
  have O := Lib.hid (FTurn.of_below h b0)
  have hb0 : base ≤ w0.heap.size := Nat.le_trans hb b0.size
  have HX := Lib.hid (And.intro hx (And.intro ng (And.intro n1 n2)))
  have BD := Lib.hid (FTurn.of_below O.out.at_ (below_drw (Below.refl w0.heap.size w0)))
  have H := Lib.hid (push_at BD.out.at_ (show base ≤ _ from hb0) hs f.locals[j])
  obtain ⟨m0, m1, m2, m3, fz⟩ := O.out.at_.cells
  obtain ⟨A1, c1, A2, c2, rfl, rfl⟩ := h.shape
  have i1' : CRow w0 base 3 1 (.slice A1 f.locals.length c1) f.locals.length (intsV f.locals) := O.out.at_.r1
  obtain ⟨g2, off2, rfl, hg2, hob2, cl, zl⟩ := ints_atF i1' (j := j) hj
  have hn1 : f.locals.length ≤ 9223372036854775807 := by
    obtain ⟨_, _, e, hle, hmx⟩ := i1'.shape
    injection e with _ _ e3
    unfold maxLen at hmx; omega
  have HSF := Lib.hid (show simF f ⟨1, j⟩ = (⟨f.fn, f.pc, f.locals, f.stack ++ [f.locals[j]]⟩, false) from by
    show ((⟨f.fn, f.pc, f.locals, f.stack ++ [f.locals.getD j 0]⟩ : Frm), false) = _
    rw [List.getD_eq_getElem?_getD, List.getElem?_eq_getElem hj]; rfl)
  clear h hs hx b0 r0 i1' fz m0 m1 m3 zl hg2 hob2 hb hb0 ng n1 n2
  go_enter Tryz.func175, Tryz.ntmps175
  go_wp2_with fail
  go_still_tail 9, (by kernel_rfl)
  go_wp2_with fail
  (with_reducible refine H.out.mono ?_)
  rintro e w1 ⟨u, rfl, h1⟩
  have HR := Lib.hid (show SimL (simF f ⟨1, j⟩) base g off _ _ xb cs w (.returned (.tuple #[])) w1 from by
    rw [HSF.out]
    exact SimL.mk (O.out.trans (BD.out.trans h1)) HX.out.1 HX.out.2.1 HX.out.2.2.1 HX.out.2.2.2)
  clear h1
  go_wp2_with fail
  go_end0
  exact HR.out

set_option maxRecDepth 100000 in
set_option maxHeartbeats 8000000 in
theorem lsimple10 {w : World} {base g off xb : Nat} {f : Frm} {v1 v2 : Value} {cs : List Value} (h : FAt w base g off f v1 v2) (hb : base ≤ w.heap.size) (hx : RowAt 95 xb cs w) (ng : xb ≠ g) (n1 : ob v1 ≠ some xb) (n2 : ob v2 ≠ some xb) (hs : f.stack.length ≤ 1000) (a : Int) (ht : 0 < f.stack.length) :
    Calls Tryz.prog 175 #[.pointer (some ⟨g, off, none⟩), .pointer (some ⟨xb, 0, none⟩), .agg #[.int .i64 10, .int .i64 a]] w (SimL (simF f ⟨10, a⟩) base g off v1 v2 xb cs w) := by
  obtain ⟨w0, hw0⟩ : ∃ w0, w.alloc (.cells #[.int .i64 10, .int .i64 a] 48) = w0 := ⟨_, rfl⟩
  have b0 : Below w.heap.size w w0 := hw0 ▸ below_alloc (Below.refl _ _) _
  have r0 : RowAt 48 w.heap.size [.int .i64 10, .int .i64 a] w0 := hw0 ▸ RowAt.new _ _ w
  have e0 := r0.cell (k := 0) (by simp)
  have e1 := r0.cell (k := 1) (by simp)
  simp only [List.getElem_cons_zero, List.getElem_cons_succ] at e0 e1
  have O := Lib.hid (FTurn.of_below h b0)
  have hb0 : base ≤ w0.heap.size := Nat.le_trans hb b0.size
  have HX := Lib.hid (And.intro hx (And.intro ng (And.intro n1 n2)))
  have BD := Lib.hid (FTurn.of_below O.out.at_ (below_drw (Below.refl w0.heap.size w0)))
  have H := Lib.hid (push_at BD.out.at_ (show base ≤ _ from hb0) hs (lastN f.stack))
  obtain ⟨g2, off2, L, c2, rfl, hL, hcap, hn1, cl, _⟩ := pop_prep O.out.at_ ht
  obtain ⟨m0, m1, m2, m3, fz⟩ := O.out.at_.cells
  have hi2 : IntKind.i64.wrap ((L : Int) + 1 - 1) = L := by rw [IntKind.wrap_i64]; omega
  have hi3 : IntKind.i64.wrap (((L + 1 : Nat) : Int) - 1) = L := by rw [IntKind.wrap_i64]; omega
  have hi4 : L < L + 1 := by omega
  have hi5 : (L : Int) < (L : Int) + 1 := by omega
  have hi6 : IntKind.i64.wrap (L : Int) = L := by rw [IntKind.wrap_i64]; omega
  have hi7 : (0 : Int) ≤ (L : Int) := by omega
  clear h hs hx b0 r0 fz m0 m1 m2 hb hb0 ht hL ng n1 n2
  go_enter Tryz.func175, Tryz.ntmps175
  go_wp2_with fail
  go_still_tail 13, (by kernel_rfl)
  go_wp2_with fail
  (with_reducible refine H.out.mono ?_)
  rintro e w1 ⟨u, rfl, h1⟩
  have HR := Lib.hid (show SimL (simF f ⟨10, a⟩) base g off _ _ xb cs w (.returned (.tuple #[])) w1 from
    SimL.mk (O.out.trans (BD.out.trans h1)) HX.out.1 HX.out.2.1 HX.out.2.2.1 HX.out.2.2.2)
  clear h1
  go_wp2_with fail
  go_end0
  exact HR.out

set_option maxRecDepth 100000 in
set_option maxHeartbeats 8000000 in
theorem lsimple2 {w : World} {base g off xb : Nat} {f : Frm} {v1 v2 : Value} {cs : List Value} (h : FAt w base g off f v1 v2) (hb : base ≤ w.heap.size) (hx : RowAt 95 xb cs w) (ng : xb ≠ g) (n1 : ob v1 ≠ some xb) (n2 : ob v2 ≠ some xb) (j : Nat) (hj : j < f.locals.length) (ht : 0 < f.stack.length) :
    Calls Tryz.prog 175 #[.pointer (some ⟨g, off, none⟩), .pointer (some ⟨xb, 0, none⟩), .agg #[.int .i64 2, .int .i64 j]] w (SimL (simF f ⟨2, j⟩) base g off v1 v2 xb cs w) := by
  obtain ⟨w0, hw0⟩ : ∃ w0, w.alloc (.cells #[.int .i64 2, .int .i64 j] 48) = w0 := ⟨_, rfl⟩
  have b0 : Below w.heap.size w w0 := hw0 ▸ below_alloc (Below.refl _ _) _
  have r0 : RowAt 48 w.heap.size [.int .i64 2, .int .i64 j] w0 := hw0 ▸ RowAt.new _ _ w
  have e0 := r0.cell (k := 0) (by simp)
  have e1 := r0.cell (k := 1) (by simp)
  simp only [List.getElem_cons_zero, List.getElem_cons_succ] at e0 e1
  have O := Lib.hid (FTurn.of_below h b0)
  have hb0 : base ≤ w0.heap.size := Nat.le_trans hb b0.size
  have HX := Lib.hid (And.intro hx (And.intro ng (And.intro n1 n2)))
  have BD := Lib.hid (FTurn.of_below O.out.at_ (below_drw (Below.refl w0.heap.size w0)))
  obtain ⟨A1, c1, A2, c2, rfl, rfl⟩ := h.shape
  have H := Lib.hid (pop_at BD.out.at_ ht)
  obtain ⟨m0, m1, m2, m3, fz⟩ := O.out.at_.cells
  have i1' : CRow w0 base 3 1 (.slice A1 f.locals.length c1) f.locals.length (intsV f.locals) := O.out.at_.r1
  obtain ⟨g2, off2, rfl, hg2, hob2, cl, zl⟩ := ints_atF i1' (j := j) hj
  have hn1 : f.locals.length ≤ 9223372036854775807 := by
    obtain ⟨_, _, e, hle, hmx⟩ := i1'.shape
    injection e with _ _ e3
    unfold maxLen at hmx; omega
  have hlt := h.lt
  have hgb : w.heap.size ≠ g := by omega
  have hg2g : g ≠ g2 := fun e => h.n1 (e ▸ hob2)
  have hg2w : w.heap.size ≠ g2 := fun e => by have := (h.lo1 g2 hob2).2; omega
  have R0 := Lib.hid r0
  have HJ := Lib.hid hj
  have far : ¬ (w.heap.size = g ∨ ob (.slice (some ⟨g2, off2, none⟩) f.locals.length c1) = some w.heap.size ∨ ob (.slice A2 f.stack.length c2) = some w.heap.size) := fun hb => by
    rcases hb with e | e | e
    · omega
    · have := (h.lo1 _ e).2; omega
    · have := (h.lo2 _ e).2; omega
  have FAR := Lib.hid far
  have HOB := Lib.hid hob2
  clear h hx b0 r0 i1' fz m0 m1 m3 hg2 hob2 hb hb0 ng n1 n2 ht far hlt cl zl
  go_enter Tryz.func175, Tryz.ntmps175
  go_wp2_with fail
  go_region_held3 (fun W' => W'.cell? ⟨g, off + 2, none⟩ = some (.slice (some ⟨g2, off2, none⟩) f.locals.length c1) ∧ W'.cell? ⟨w.heap.size, 1, none⟩ = some (.int .i64 j)) (first | exact ⟨m2, e1⟩ | exact ⟨m2', e1'⟩ | exact ⟨m3', e3'⟩ | go_keep) (first | (go_at_call 173; (with_reducible refine H.out.mono ?_); rintro e w1 ⟨u, rfl, h1⟩; have HT := Lib.hid h1; have m2' := h1.at_.cells.2.2.1; have r1 := (R0.out.below (below_drw (Below.refl w0.heap.size w0))).chg h1.chg FAR.out; have e1' := r1.cell (k := 1) (by simp); simp only [List.getElem_cons_zero, List.getElem_cons_succ] at e1'; obtain ⟨_, _, eA, _, _, cl, zl⟩ := ints_atF (show CRow w1 base 3 1 (.slice (some ⟨g2, off2, none⟩) f.locals.length c1) f.locals.length (intsV f.locals) from h1.at_.r1) (j := j) HJ.out; cases eA; have kc : Chg (fun b => b = g2) w1 (w1.setCell ⟨g2, off2 + j, none⟩ (.int .i64 (lastN f.stack))) := Chg.put (S := fun b => b = g2) (Chg.refl _ w1) (a := ⟨g2, off2 + j, none⟩) rfl _; have m3' := kc.cell m2' hg2g; have e3' := kc.cell e1' hg2w; have hP := h1.at_.put_local HJ.out (lastN f.stack); have HR := Lib.hid (show SimL (simF f ⟨2, j⟩) base g off _ _ xb cs w (.returned (.tuple #[])) _ from SimL.mk (O.out.trans (BD.out.trans (h1.trans hP))) HX.out.1 HX.out.2.1 HX.out.2.2.1 HX.out.2.2.2); clear r1 h1 kc hP))
  all_goals go_end0
  all_goals exact HR.out

end Go.Proofs.YtjghibdlmmjobaaGreatDoor

namespace Go.Proofs.YtjghibdlmmjobaaGreatDoor
open Go.RowKit

/-- What an instruction of code or of a program came to. -/
structure Exc where
  kind : Int
  pl : Int
  fuel : Int
  fn : Int
  args : List Int
  value : Int
  print : Bool
  mt : Int
  polled : Bool
def excC (x : Exc) (va : Value) : List Value := [.int .i64 x.kind, .int .i64 x.pl, .int .i64 x.fuel, .int .i64 x.fn, va, .int .i64 x.value, .bool x.print, .int .i64 x.mt, .bool x.polled]
theorem run_cut {P : Program} (ts t : TypeId) (hts : P.underlying ts = some (.slice t)) (i : TypeInfo) (hi : P.info? t = some i) (A : Option Addr) (n cap K : Nat) (hK : K ≤ n) (w : World) : (Instr.slice ts (.slice A n cap) (some (.int .i64 K)) none none).run P w = .ok (.slice (if cap = K then A else A.map (·.add (K * i.size))) (n - K) (cap - K)) w := by
  have he : P.elem ts = t := by simp [Program.elem, hts]
  have hso : ∀ w', (sizeOf t).run P w' = .ok i.size w' := fun w' => by simp [sizeOf, typeInfo, hi]
  rw [run_slice_l (P := P) w ts A n cap (by rw [he]; exact hts) .i64 K (by omega) (by omega), he, hso]
  simp [Result.andThen, sliced]
theorem run_initA {P : Program} (ts t : TypeId) (hts : P.underlying ts = some (.slice t)) (i : TypeInfo) (hi : P.info? t = some i) (A : Option Addr) (n cap m : Nat) (hm : m ≤ cap) (w : World) : (Instr.slice ts (.slice A n cap) none (some (.int .i64 m)) none).run P w = .ok (.slice A m cap) w := by
  have he : P.elem ts = t := by simp [Program.elem, hts]
  have hso : ∀ w', (sizeOf t).run P w' = .ok i.size w' := fun w' => by simp [sizeOf, typeInfo, hi]
  rw [run_slice_h (P := P) w ts A n cap (by rw [he]; exact hts) .i64 m (by omega) (by omega), he, hso]
  have e : A.map (fun x => x.add 0) = A := by cases A <;> simp [add_nil]
  simp [Result.andThen, sliced, e]
theorem cut_reads {w : World} {A : Option Addr} {xs : List Int} {cap K : Nat} (h : ReadsI w A xs) (hc : xs.length ≤ cap) : ReadsI w (if cap = K then A else A.map (·.add (K * 1))) (xs.drop K) := by
  refine ⟨by rw [List.length_drop]; have := h.1; omega, fun h0 => ?_⟩
  rw [List.length_drop] at h0
  obtain ⟨ad, rfl, hx⟩ := h.2 (by omega)
  rw [if_neg (by omega)]
  refine ⟨_, rfl, fun j hj => ?_⟩
  rw [List.length_drop] at hj
  have := hx (K + j) (by omega)
  have e : (ad.add (K * 1)).add j = ad.add (K + j) := by
    rw [Nat.mul_one]
    unfold Addr.add
    by_cases hK : K = 0
    · subst hK; simp
    · by_cases hj0 : j = 0
      · subst hj0; simp
      · rw [if_neg hj0, if_neg hK, if_neg (by omega)]; simp [Nat.add_assoc]
  show w.cell? ((ad.add (K * 1)).add j) = _
  rw [e, List.getElem_drop]; exact this
/-- A call that takes args off a frame at a place. -/
def CallL (f : Frm) (K : Nat) (n : Int) (base g off : Nat) (v1 v2 : Value) (xb : Nat) (cs : List Value) (w : World) (e : Ending) (w' : World) : Prop :=
  ∃ u va, e = .returned (.tuple #[]) ∧ FAt w' base g off ⟨f.fn, f.pc, f.locals, f.stack.take K⟩ v1 u ∧ Chg (fun b => (b = g ∨ ob v1 = some b ∨ ob v2 = some b) ∨ b = xb) w w' ∧ Blk4 w w' g off ∧ (∀ b, ob u = some b → ob v2 = some b ∨ w.heap.size ≤ b) ∧
    RowAt 95 xb (((cs.set 0 (.int .i64 1)).set 3 (.int .i64 n)).set 4 va) w' ∧ InnAt w' w.heap.size va (innI (f.stack.drop K)) ∧ ∀ b, ob va = some b → ob u ≠ some b
theorem take_put {w w1 : World} {base g off c2 K : Nat} {A2 : Option Addr} {f : Frm} {v1 : Value} (h : FAt w base g off f v1 (.slice A2 f.stack.length c2)) (hK : K ≤ f.stack.length) (hb : Below w.heap.size w w1) :
    FTurn w (w1.setCell ⟨g, off + 3, none⟩ (.slice A2 K c2)) base g off ⟨f.fn, f.pc, f.locals, f.stack.take K⟩ v1 (.slice A2 f.stack.length c2) (.slice A2 K c2) := by
  have h1 := h.below hb
  have hi := take_innI h1.r2 hK
  exact FTurn.before h hb (h1.put_stack (Chg.refl _ _) hi (fun b e => .inl (by
    cases A2 with
    | none => cases c2 <;> cases e
    | some a => cases c2 with
      | zero => cases e
      | succ c => exact e)))
set_option maxRecDepth 100000 in
set_option maxHeartbeats 8000000 in
theorem lcallD_any {w : World} {g off xb : Nat} {cs : List Value} {P : Addr} (fn d : Int) (hx : RowAt 95 xb cs w) (h0 : 0 < cs.length) (hd : 12 ≤ d) :
    Calls Tryz.prog 174 #[.pointer (some P), .pointer (some ⟨g, off, none⟩), .pointer (some ⟨xb, 0, none⟩), .int .i64 fn, .int .i64 d] w fun e w' => e = .returned (.tuple #[]) ∧ w' = w.setCell ⟨xb, 0, none⟩ (.int .i64 4) := by
  obtain ⟨c, c0⟩ : ∃ c, w.cell? ⟨xb, 0, none⟩ = some c := ⟨_, hx.cell (k := 0) h0⟩
  have z0 := hx.free 0
  have d0 : decide (12 ≤ d) = true := by simpa using hd
  clear hx hd h0
  go_enter Tryz.func174, Tryz.ntmps174
  go_wp2_with fail
  (try simp only [Exit.inBlock, Exit.then])
  refine bodyPost_ret (results_none rfl _ _ _) rfl ?_
  exact ⟨rfl, rfl⟩
set_option maxRecDepth 100000 in
set_option maxHeartbeats 8000000 in
theorem lcall_any {w W0 : World} {base g off xb cp : Nat} {P : Addr} {p : List Fn} {Ap : Option Addr} {f : Frm} {v1 v2 : Value} {cs : List Value} (h : FAt w base g off f v1 v2) (hW : Below W0.heap.size W0 w) (hP : W0.cell? P = some (.slice Ap p.length cp)) (hr : ReadsF W0 Ap p)
    (hx : RowAt 95 xb cs w) (hcs : cs.length = 9) (ng : xb ≠ g) (n1 : ob v1 ≠ some xb) (n2 : ob v2 ≠ some xb) {n M : Nat} (hn : n < p.length) (hM : p[n].args = M) (hle : M ≤ f.stack.length) (h8 : f.stack.length ≤ 1000) (d : Int) (hd : d < 12) :
    Calls Tryz.prog 174 #[.pointer (some P), .pointer (some ⟨g, off, none⟩), .pointer (some ⟨xb, 0, none⟩), .int .i64 n, .int .i64 d] w (CallL f (f.stack.length - M) n base g off v1 v2 xb cs w) := by
  obtain ⟨A1, c1, A2, c2, rfl, rfl⟩ := h.shape
  obtain ⟨K, hK⟩ : ∃ K, f.stack.length - M = K := ⟨_, rfl⟩
  have i2 : CRow w base 3 1 (.slice A2 f.stack.length c2) f.stack.length (intsV f.stack) := h.r2
  have hcap := CRow.cap i2
  obtain ⟨ad, rfl, Ac, cc, hF⟩ := fnAt_of hr hW hn
  have k0 := hF.c0
  rw [hM] at k0
  have kP := cell_below hW hP
  obtain ⟨i, hi, hz0, hsz, hbb⟩ := info_parts info_int
  have hcut := fun W => run_cut (P := Tryz.prog) 28 3 Tryz.underlying28 i hi A2 f.stack.length c2 K (by omega) W
  have hini := fun W => run_initA (P := Tryz.prog) 28 3 Tryz.underlying28 i hi A2 f.stack.length c2 K (by omega) W
  rw [hsz] at hcut
  obtain ⟨A3, hA3⟩ : ∃ A3, (if c2 = K then A2 else A2.map (·.add (K * 1))) = A3 := ⟨_, rfl⟩
  rw [hA3] at hcut
  have hrd := cut_reads (K := K) (cap := c2) (CRow.ints i2) hcap
  rw [hA3] at hrd
  have hdl : (f.stack.drop K).length = f.stack.length - K := List.length_drop
  have hcl := fun k => cloneI_any A3 (c2 - K) (f.stack.drop K) (w.drewN k) (hrd.below (below_drew (Below.refl _ _) k)) (by omega)
  rw [hdl] at hcl
  obtain ⟨m0, m1, m2, m3, fz⟩ := h.cells
  have hw1 : IntKind.i64.wrap ((f.stack.length : Int) - (M : Int)) = K := by rw [IntKind.wrap_i64]; omega
  have hw2 : IntKind.i64.wrap ((f.stack.length : Int) + -(M : Int)) = K := by rw [IntKind.wrap_i64]; omega
  have d0 : decide (12 ≤ d) = false := by simpa using hd
  have hnn : (n : Int) < p.length := by omega
  have hpl := hr.1
  have hsl : f.stack.length ≤ 9223372036854775807 := by omega
  have x0 := hx.cell (k := 0) (by omega)
  have x3 := hx.cell (k := 3) (by omega)
  have x4 := hx.cell (k := 4) (by omega)
  have HX := Lib.hid hx
  have HF := Lib.hid h
  have HKL := Lib.hid (show K ≤ f.stack.length by omega)
  have HN := Lib.hid (And.intro ng (And.intro n1 n2))
  have HCS := Lib.hid hcs
  have HCL := Lib.hid hcl
  rw [hK]
  clear h hx hr hP hW hF hM hle h8 hd hK hA3 hrd i2 hi hz0 hsz hbb hcl hdl ng n1 n2 m0 m1 m2 fz
  go_enter Tryz.func174, Tryz.ntmps174
  go_wp2_with fail
  go_quiet (fail)
  go_wp2_with fail
  (with_reducible refine (HCL.out _).mono ?_)
  rintro e w2 ⟨ao, cap, rfl, hcr, hB⟩
  have hB : Below w.heap.size w w2 := below_trans (below_drew (Below.refl _ _) nq) hB
  have hcr : CRow w2 w.heap.size 3 1 (.slice ao (f.stack.length - K) cap) (f.stack.length - K) (intsV (f.stack.drop K)) := hcr
  have hlx := blk_lt HX.out
  have r0 := HX.out.below hB
  have r1 := r0.put 0 (.int .i64 1)
  have r2 := r1.put 3 (.int .i64 n)
  have r3 := r2.put 4 (.slice ao (f.stack.length - K) cap)
  obtain ⟨y0, q0⟩ : ∃ c, w2.cell? ⟨xb, 0, none⟩ = some c := ⟨_, r0.cell (k := 0) (by omega)⟩
  obtain ⟨y3, q3⟩ : ∃ c, (w2.setCell ⟨xb, 0, none⟩ (.int .i64 1)).cell? ⟨xb, 3, none⟩ = some c := ⟨_, r1.cell (k := 3) (by simp; omega)⟩
  obtain ⟨y4, q4⟩ : ∃ c, ((w2.setCell ⟨xb, 0, none⟩ (.int .i64 1)).setCell ⟨xb, 3, none⟩ (.int .i64 n)).cell? ⟨xb, 4, none⟩ = some c := ⟨_, r2.cell (k := 4) (by simp; omega)⟩
  have z0 := r0.free 0
  have z3 := r1.free 3
  have z4 := r2.free 4
  obtain ⟨w3, hw3⟩ : ∃ w3, (((w2.setCell ⟨xb, 0, none⟩ (.int .i64 1)).setCell ⟨xb, 3, none⟩ (.int .i64 n)).setCell ⟨xb, 4, none⟩ (.slice ao (f.stack.length - K) cap)) = w3 := ⟨_, rfl⟩
  have kc : Chg (fun b => b = xb) w2 w3 := hw3 ▸ (((Chg.refl (fun b => b = xb) w2).put (a := ⟨xb, 0, none⟩) rfl _).put (a := ⟨xb, 3, none⟩) rfl _).put (a := ⟨xb, 4, none⟩) rfl _
  rw [hw3] at r3
  have hF3 := (HF.out.below hB).chg kc (fun e => HN.out.1 e.symm) (fun b e e2 => HN.out.2.1 (e2 ▸ e)) (fun b e e2 => HN.out.2.2 (e2 ▸ e))
  obtain ⟨_, _, _, m3', fz'⟩ := hF3.cells
  have zg := fz' (off + 3)
  have hT := take_put hF3 HKL.out (Below.refl _ _)
  have hr4 := hT.row r3 HN.out.1 HN.out.2.1 HN.out.2.2
  have hc3 := hcr.chg kc (fun b e e2 => by have := (hcr.in_ b e).1; omega)
  have old : ∀ b, (b = g ∨ ob (.slice A1 f.locals.length c1) = some b ∨ ob (.slice A2 f.stack.length c2) = some b) → b < w.heap.size := fun b hb => by
    rcases hb with e | e | e
    · exact e ▸ HF.out.lt
    · exact (HF.out.lo1 b e).2
    · exact (HF.out.lo2 b e).2
  have hc4 := hc3.chg hT.chg (fun b e e2 => by have := (hcr.in_ b e).1; have := old b e2; omega)
  have hs3 : w.heap.size ≤ w3.heap.size := Nat.le_trans hB.size kc.size
  have hnew : ∀ b, ob (.slice A2 K c2) = some b → ob (.slice A2 f.stack.length c2) = some b := fun b e => by
    cases A2 with
    | none => cases c2 <;> cases e
    | some a => cases c2 with
      | zero => cases e
      | succ c => exact e
  have HR := Lib.hid (show CallL f K n base g off (.slice A1 f.locals.length c1) (.slice A2 f.stack.length c2) xb cs w (.returned (.tuple #[])) (w3.setCell ⟨g, off + 3, none⟩ (.slice A2 K c2)) from
    ⟨_, _, rfl, hT.at_, ((Chg.of_below hB).trans kc (fun _ _ h => .inr h)).trans hT.chg (fun _ _ h => .inl h), (Blk4.of_chg (S := fun _ => False) (Chg.of_below hB) (fun h => h)).trans ((Blk4.of_chg kc (fun e => HN.out.1 e.symm)).trans hT.blk), (fun b e => .inl (hnew b e)), hr4,
      (by show CRow _ w.heap.size 3 1 _ (f.stack.drop K).length _; rw [List.length_drop]; exact hc4), fun b e e2 => by have := (hcr.in_ b e).1; have := old b (.inr (.inr (hnew b e2))); omega⟩)
  clear hcr hB hlx r0 r1 r2 r3 kc hF3 fz' hT hr4 hc3 old hc4 hs3 hnew x0 x3 x4
  go_wp2_with fail
  go_end0
  exact HR.out
end Go.Proofs.YtjghibdlmmjobaaGreatDoor
