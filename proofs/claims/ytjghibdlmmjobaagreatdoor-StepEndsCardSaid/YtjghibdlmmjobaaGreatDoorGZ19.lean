/- 'step.One' on a frame at a place: an instruction, and what it came to. Conditions: the frame is the call's own and may be; the program lies in older memory. -/
import Derived.Test.YtjghibdlmmjobaaGreatDoorGZ18
namespace Go.Proofs.YtjghibdlmmjobaaGreatDoor
open Go.RowKit

theorem code_at {w W0 : World} {p : List Fn} {Ap : Option Addr} {fn pc : Nat} (hr : ReadsF W0 Ap p) (hb : Below W0.heap.size W0 w) (hfn : fn < p.length) (hpc : pc < p[fn].code.length) :
    ∃ ad Ac cc, Ap = some ad ∧ w.cell? ⟨(ad.add (fn * 3)).block, (ad.add (fn * 3)).off + 2, none⟩ = some (.slice (some Ac) p[fn].code.length cc) ∧ w.cell? (Ac.add (pc * 2)) = some (.int .i64 p[fn].code[pc].kind) ∧ w.cell? ⟨(Ac.add (pc * 2)).block, (Ac.add (pc * 2)).off + 1, none⟩ = some (.int .i64 p[fn].code[pc].a) ∧ p[fn].code.length ≤ 9223372036854775807 := by
  obtain ⟨ad, rfl, Ac, cc, hF⟩ := fnAt_of hr hb hfn
  obtain ⟨Ad, rfl, c0, c1⟩ := hF.r.at_ (Below.refl _ _) hpc
  exact ⟨ad, Ad, cc, rfl, hF.c2, c0, c1, hF.r.1⟩
/-- Nine cells, as they are read. -/
theorem row9 {t b : Nat} {c0 c1 c2 c3 c4 c5 c6 c7 c8 : Value} {w : World} (h : RowAt t b [c0, c1, c2, c3, c4, c5, c6, c7, c8] w) :
    w.cell? ⟨b, 0, none⟩ = some c0 ∧ w.cell? ⟨b, 1, none⟩ = some c1 ∧ w.cell? ⟨b, 2, none⟩ = some c2 ∧ w.cell? ⟨b, 3, none⟩ = some c3 ∧ w.cell? ⟨b, 4, none⟩ = some c4 ∧ w.cell? ⟨b, 5, none⟩ = some c5 ∧ w.cell? ⟨b, 6, none⟩ = some c6 ∧ w.cell? ⟨b, 7, none⟩ = some c7 ∧ w.cell? ⟨b, 8, none⟩ = some c8 :=
  ⟨h.cell (k := 0) (by simp), h.cell (k := 1) (by simp), h.cell (k := 2) (by simp), h.cell (k := 3) (by simp), h.cell (k := 4) (by simp), h.cell (k := 5) (by simp), h.cell (k := 6) (by simp), h.cell (k := 7) (by simp), h.cell (k := 8) (by simp)⟩
/-- Nine cells, written one behind the other. -/
theorem put9 {t b : Nat} {cs : List Value} {w : World} (h : RowAt t b cs w) (hl : cs.length = 9) (c0 c1 c2 c3 c4 c5 c6 c7 c8 : Value) :
    ((w.setCell ⟨b, 0, none⟩ c0).cell? ⟨b, 0, none⟩ = some c0 ∧ ((w.setCell ⟨b, 0, none⟩ c0).setCell ⟨b, 1, none⟩ c1).cell? ⟨b, 1, none⟩ = some c1 ∧ (((w.setCell ⟨b, 0, none⟩ c0).setCell ⟨b, 1, none⟩ c1).setCell ⟨b, 2, none⟩ c2).cell? ⟨b, 2, none⟩ = some c2 ∧ ((((w.setCell ⟨b, 0, none⟩ c0).setCell ⟨b, 1, none⟩ c1).setCell ⟨b, 2, none⟩ c2).setCell ⟨b, 3, none⟩ c3).cell? ⟨b, 3, none⟩ = some c3 ∧ (((((w.setCell ⟨b, 0, none⟩ c0).setCell ⟨b, 1, none⟩ c1).setCell ⟨b, 2, none⟩ c2).setCell ⟨b, 3, none⟩ c3).setCell ⟨b, 4, none⟩ c4).cell? ⟨b, 4, none⟩ = some c4 ∧ ((((((w.setCell ⟨b, 0, none⟩ c0).setCell ⟨b, 1, none⟩ c1).setCell ⟨b, 2, none⟩ c2).setCell ⟨b, 3, none⟩ c3).setCell ⟨b, 4, none⟩ c4).setCell ⟨b, 5, none⟩ c5).cell? ⟨b, 5, none⟩ = some c5 ∧ (((((((w.setCell ⟨b, 0, none⟩ c0).setCell ⟨b, 1, none⟩ c1).setCell ⟨b, 2, none⟩ c2).setCell ⟨b, 3, none⟩ c3).setCell ⟨b, 4, none⟩ c4).setCell ⟨b, 5, none⟩ c5).setCell ⟨b, 6, none⟩ c6).cell? ⟨b, 6, none⟩ = some c6 ∧ ((((((((w.setCell ⟨b, 0, none⟩ c0).setCell ⟨b, 1, none⟩ c1).setCell ⟨b, 2, none⟩ c2).setCell ⟨b, 3, none⟩ c3).setCell ⟨b, 4, none⟩ c4).setCell ⟨b, 5, none⟩ c5).setCell ⟨b, 6, none⟩ c6).setCell ⟨b, 7, none⟩ c7).cell? ⟨b, 7, none⟩ = some c7 ∧ (((((((((w.setCell ⟨b, 0, none⟩ c0).setCell ⟨b, 1, none⟩ c1).setCell ⟨b, 2, none⟩ c2).setCell ⟨b, 3, none⟩ c3).setCell ⟨b, 4, none⟩ c4).setCell ⟨b, 5, none⟩ c5).setCell ⟨b, 6, none⟩ c6).setCell ⟨b, 7, none⟩ c7).setCell ⟨b, 8, none⟩ c8).cell? ⟨b, 8, none⟩ = some c8) ∧ RowAt t b [c0, c1, c2, c3, c4, c5, c6, c7, c8] (((((((((w.setCell ⟨b, 0, none⟩ c0).setCell ⟨b, 1, none⟩ c1).setCell ⟨b, 2, none⟩ c2).setCell ⟨b, 3, none⟩ c3).setCell ⟨b, 4, none⟩ c4).setCell ⟨b, 5, none⟩ c5).setCell ⟨b, 6, none⟩ c6).setCell ⟨b, 7, none⟩ c7).setCell ⟨b, 8, none⟩ c8) ∧ Chg (fun x => x = b) w (((((((((w.setCell ⟨b, 0, none⟩ c0).setCell ⟨b, 1, none⟩ c1).setCell ⟨b, 2, none⟩ c2).setCell ⟨b, 3, none⟩ c3).setCell ⟨b, 4, none⟩ c4).setCell ⟨b, 5, none⟩ c5).setCell ⟨b, 6, none⟩ c6).setCell ⟨b, 7, none⟩ c7).setCell ⟨b, 8, none⟩ c8) := by
  match cs, hl with
  | [d0, d1, d2, d3, d4, d5, d6, d7, d8], _ =>
    have s1 := h.put 0 c0
    have s2 := s1.put 1 c1
    have s3 := s2.put 2 c2
    have s4 := s3.put 3 c3
    have s5 := s4.put 4 c4
    have s6 := s5.put 5 c5
    have s7 := s6.put 6 c6
    have s8 := s7.put 7 c7
    have s9 := s8.put 8 c8
    exact ⟨⟨s1.cell (k := 0) (by simp), s2.cell (k := 1) (by simp), s3.cell (k := 2) (by simp), s4.cell (k := 3) (by simp), s5.cell (k := 4) (by simp), s6.cell (k := 5) (by simp), s7.cell (k := 6) (by simp), s8.cell (k := 7) (by simp), s9.cell (k := 8) (by simp)⟩, s9, (((((((((Chg.refl (fun x => x = b) w).put (a := ⟨b, 0, none⟩) rfl _).put (a := ⟨b, 1, none⟩) rfl _).put (a := ⟨b, 2, none⟩) rfl _).put (a := ⟨b, 3, none⟩) rfl _).put (a := ⟨b, 4, none⟩) rfl _).put (a := ⟨b, 5, none⟩) rfl _).put (a := ⟨b, 6, none⟩) rfl _).put (a := ⟨b, 7, none⟩) rfl _).put (a := ⟨b, 8, none⟩) rfl _⟩
/-- 'One' tells: the frame behind it, what came of it, did it jump? -/
def OneE (f : Frm) (x : Exc) (jumps : Bool) (base g off : Nat) (v1 v2 : Value) (w : World) (e : Ending) (w' : World) : Prop :=
  ∃ u va, e = .returned (.tuple #[.agg (excC x va).toArray, .bool jumps]) ∧ FTurn w w' base g off f v1 v2 u ∧ InnAt w' w.heap.size va (innI x.args) ∧ ∀ b, ob va = some b → ob u ≠ some b
section
variable {w w1 w2 : World} {base g off xb n0 : Nat} {f f1 f2 : Frm} {v1 v2 va vb u : Value}
theorem FTurn.past (h : FTurn w w1 base g off f v1 v2 u) (hk : Chg (fun b => b = n0) w1 w2) (h0 : w.heap.size ≤ n0) (hg : n0 ≠ g) (hv : ob v1 ≠ some n0) (hu : ob u ≠ some n0) : FTurn w w2 base g off f v1 v2 u :=
  ⟨h.at_.chg hk (fun e => hg e.symm) (fun b e e2 => hv (e2 ▸ e)) (fun b e e2 => hu (e2 ▸ e)), h.chg.trans hk (fun i hi e => by omega), h.blk.trans (Blk4.of_chg hk (fun e => hg e.symm)), h.new⟩
theorem FTurn.trans_x (h : FTurn w w1 base g off f1 v1 v2 va) (hat : FAt w2 base g off f2 v1 vb) (hc : Chg (fun b => (b = g ∨ ob v1 = some b ∨ ob va = some b) ∨ b = xb) w1 w2) (hbk : Blk4 w1 w2 g off) (hn : ∀ b, ob vb = some b → ob va = some b ∨ w1.heap.size ≤ b) (hx : w.heap.size ≤ xb) : FTurn w w2 base g off f2 v1 v2 vb :=
  ⟨hat, h.chg.trans hc (fun i hi hs => by
    rcases hs with (e | e | e) | e
    · exact .inl e
    · exact .inr (.inl e)
    · exact .inr (.inr ((h.new i e).resolve_right (by omega)))
    · omega), h.blk.trans hbk, fun b hb => by
    rcases hn b hb with e | e
    · exact h.new b e
    · exact .inr (Nat.le_trans h.chg.size e)⟩
/-- The frame and its rows lie apart from what was made behind them. -/
theorem FAt.apart (h : FAt w base g off f v1 v2) (hx : w.heap.size ≤ xb) : xb ≠ g ∧ ob v1 ≠ some xb ∧ ob v2 ≠ some xb :=
  ⟨fun e => by have := h.lt; omega, fun e => by have := (h.lo1 _ e).2; omega, fun e => by have := (h.lo2 _ e).2; omega⟩
theorem InnAt.chg1 {v : Value} {xs : List Int} (h : InnAt w base v (innI xs)) (hk : Chg (fun b => b = n0) w w1) (hv : ob v ≠ some n0) : InnAt w1 base v (innI xs) := CRow.chg h hk (fun _ e e2 => hv (e2 ▸ e))
/-- What was told is handed back. -/
theorem one_end {x : Exc} {jumps : Bool} (hT : FTurn w w1 base g off f v1 v2 u) (hI : InnAt w1 w.heap.size va (innI x.args)) (hd : ∀ b, ob va = some b → ob u ≠ some b) (hk : Chg (fun b => b = n0) w1 w2) (h0 : w.heap.size ≤ n0) (hg : n0 ≠ g) (hv : ob v1 ≠ some n0) (hu : ob u ≠ some n0) (ha : ob va ≠ some n0) :
    OneE f x jumps base g off v1 v2 w (.returned (.tuple #[.agg (excC x va).toArray, .bool jumps])) w2 :=
  ⟨u, va, rfl, hT.past hk h0 hg hv hu, hI.chg1 hk ha, hd⟩
theorem ob_nil : ob (.slice none 0 0) = none := rfl
end

set_option maxRecDepth 100000 in
set_option maxHeartbeats 8000000 in
theorem loneF {w : World} {base g off : Nat} {P : Addr} {f : Frm} {v1 v2 : Value} (h : FAt w base g off f v1 v2) (d : Int) :
    Calls Tryz.prog 129 #[.pointer (some P), .pointer (some ⟨g, off, none⟩), .int .i64 0, .int .i64 d] w (OneE f ⟨5, 0, 0, 0, [], 0, false, 0, false⟩ false base g off v1 v2 w) := by
  have H := Lib.hid h
  clear h
  go_enter Tryz.func129, Tryz.ntmps129
  go_wp2_with fail
  exact bodyPost_ret (v := .tuple #[.agg (excC ⟨5, 0, 0, 0, [], 0, false, 0, false⟩ (.slice none 0 0)).toArray, .bool false]) (by simp [results, Tryz.results129, go_sem, excC]) rfl ⟨_, _, rfl, FTurn.of_below H.out (below_alloc (Below.refl _ _) _), innI_nil _ _, fun _ e => by cases e⟩

set_option maxRecDepth 100000 in
set_option maxHeartbeats 8000000 in
theorem lone12 {w W0 : World} {base g off cp : Nat} {P : Addr} {p : List Fn} {Ap : Option Addr} {f : Frm} {v1 v2 : Value} (h : FAt w base g off f v1 v2) (hb : base ≤ w.heap.size) (hW : Below W0.heap.size W0 w) (hP : W0.cell? P = some (.slice Ap p.length cp)) (hr : ReadsF W0 Ap p)
    {fn pc : Nat} (efn : f.fn = fn) (epc : f.pc = pc) (hfn : fn < p.length) (hpc : pc < p[fn].code.length) {a : Int} (hi : p[fn].code[pc] = ⟨12, a⟩) (fuel d : Int) (hf : 0 < fuel) (hf2 : fuel ≤ 100000) (h64 : p[fn].code.length ≤ 1000) :
    Calls Tryz.prog 129 #[.pointer (some P), .pointer (some ⟨g, off, none⟩), .int .i64 fuel, .int .i64 d] w (OneE (⟨f.fn, a, f.locals, f.stack⟩) (⟨0, 0, fuel - 1, 0, [], 0, false, 0, false⟩) false base g off v1 v2 w) := by
  have d0 : (fuel == 0) = false := beq_eq_false_iff_ne.2 (by omega)
  have hfw : wrap64 (fuel - 1) = fuel - 1 := by unfold wrap64; omega
  have hpw : wrap64 ((pc : Int) + 1) = pc + 1 := by unfold wrap64; omega
  obtain ⟨w1, hw1⟩ : ∃ w1, w.alloc (.cells #[.int .i64 0, .int .i64 0, .int .i64 0, .int .i64 0, .slice none 0 0, .int .i64 0, .bool false, .int .i64 0, .bool false] 95) = w1 := ⟨_, rfl⟩
  obtain ⟨w2, hw2⟩ : ∃ w2, w1.alloc (.cells #[.int .i64 0, .int .i64 0, .int .i64 (fuel - 1), .int .i64 0, .slice none 0 0, .int .i64 0, .bool false, .int .i64 0, .bool false] 95) = w2 := ⟨_, rfl⟩
  have b1 : Below w.heap.size w w1 := hw1 ▸ below_alloc (Below.refl _ _) _
  have b2 : Below w1.heap.size w1 w2 := hw2 ▸ below_alloc (Below.refl _ _) _
  have b02 := below_trans b1 b2
  have y1 : w1.heap.size = w.heap.size + 1 := by rw [← hw1]; simp
  have y2 : w2.heap.size = w.heap.size + 2 := by rw [← hw2]; simp [y1]
  have r1 : RowAt 95 w.heap.size [.int .i64 0, .int .i64 0, .int .i64 0, .int .i64 0, .slice none 0 0, .int .i64 0, .bool false, .int .i64 0, .bool false] w2 := (hw1 ▸ RowAt.new _ _ w : RowAt 95 w.heap.size [.int .i64 0, .int .i64 0, .int .i64 0, .int .i64 0, .slice none 0 0, .int .i64 0, .bool false, .int .i64 0, .bool false] w1).below b2
  have r2 : RowAt 95 w1.heap.size [.int .i64 0, .int .i64 0, .int .i64 (fuel - 1), .int .i64 0, .slice none 0 0, .int .i64 0, .bool false, .int .i64 0, .bool false] w2 := hw2 ▸ RowAt.new _ _ w1
  have hF := h.below b02
  have hW2 := below_trans hW b02
  obtain ⟨ad, Ac, cc, rfl, c2, c0, c1, _⟩ := code_at hr hW2 hfn hpc
  have kP := cell_below hW2 hP
  obtain ⟨m0, m1, m2, m3, fz⟩ := hF.cells
  rw [efn] at m0
  rw [epc] at m1
  rw [hi] at c0 c1
  simp only at c0 c1
  have hpl := hr.1
  have HR1 := Lib.hid r1
  have HR2 := Lib.hid r2
  have HT2 := Lib.hid (FTurn.of_below h b02)
  have HW2 := Lib.hid hW2
  have AP := Lib.hid (fun (x : Nat) (hx : w.heap.size ≤ x) => h.apart hx)
  have Y := Lib.hid (And.intro y1 y2)
  have HB := Lib.hid hb
  have HW := Lib.hid hW
  have HV2 := Lib.hid h.lo2
  have HPP := Lib.hid (And.intro hP hr)
  have efn' := Lib.hid efn
  subst hw2
  clear y1 y2 h hb hW hP hr hi r1 r2 hF hW2 fz m2 m3 b1 b2 b02 efn
  go_enter Tryz.func129, Tryz.ntmps129
  go_upto_region 4 with fail
  generalize hw2 : w1.alloc (.cells #[.int .i64 0, .int .i64 0, .int .i64 (fuel - 1), .int .i64 0, .slice none 0 0, .int .i64 0, .bool false, .int .i64 0, .bool false] 95) = w2 at *
  clear hw1 hw2
  have b3 := below_alloc (Below.refl w2.heap.size w2) (.cells #[.int .i64 0, .int .i64 0] 48)
  have kP3 := cell_below b3 kP
  have c23 := cell_below b3 c2
  have c03 := cell_below b3 c0
  have c13 := cell_below b3 c1
  have m03 := cell_below b3 m0
  have m13 := cell_below b3 m1
  clear b3
  go_region
  clear kP3 c23 c03 c13 m03 m13 kP c0 c1 c2 m0 m1
  have b3 : Below w2.heap.size w2 (w2.alloc (.cells #[.int .i64 12, .int .i64 a] 48)).drew := below_drw (below_alloc (Below.refl w2.heap.size w2) _)
  have rI : RowAt 48 w2.heap.size [.int .i64 12, .int .i64 a] (w2.alloc (.cells #[.int .i64 12, .int .i64 a] 48)).drew := RowAt.new _ _ w2
  generalize hw3 : (w2.alloc (.cells #[.int .i64 12, .int .i64 a] 48)).drew = w3 at *
  have T3 := HT2.out.after b3
  obtain ⟨_, m1, _, _, fz⟩ := T3.at_.cells
  rw [epc] at m1
  have hz1 := fz (off + 1)
  obtain ⟨w4, hw4⟩ : ∃ w4, w3.setCell ⟨g, off + 1, none⟩ (.int .i64 ((pc : Int) + 1)) = w4 := ⟨_, rfl⟩
  have hP4 := T3.at_.put_pc ((pc : Int) + 1)
  rw [hw4] at hP4
  have T4 := Lib.hid (T3.trans hP4)
  have row4 : ∀ {t b : Nat} {cs : List Value}, RowAt t b cs w2 → w.heap.size ≤ b → RowAt t b cs w4 := fun hr hx => hP4.row (hr.below b3) (AP.out _ hx).1 (AP.out _ hx).2.1 (AP.out _ hx).2.2
  have rI4 := hP4.row rI (AP.out _ (show w.heap.size ≤ w2.heap.size by have := Y.out; omega)).1 (AP.out _ (show w.heap.size ≤ w2.heap.size by have := Y.out; omega)).2.1 (AP.out _ (show w.heap.size ≤ w2.heap.size by have := Y.out; omega)).2.2
  have R1 := Lib.hid (row4 HR1.out (Nat.le_refl _))
  have R2 := Lib.hid (row4 HR2.out (by have := Y.out; omega))
  have RI := Lib.hid rI4
  have i0 := rI4.cell (k := 0) (by simp)
  have i1 := rI4.cell (k := 1) (by simp)
  simp only [List.getElem_cons_zero, List.getElem_cons_succ] at i0 i1
  have S4 := Lib.hid (show w2.heap.size < w4.heap.size from blk_lt rI4)
  clear T3 hP4 row4 rI4 rI fz HT2 HR1 HR2
  obtain ⟨_, n1, _, _, fz4⟩ := T4.out.at_.cells
  have hz4 := fz4 (off + 1)
  obtain ⟨w5, hw5⟩ : ∃ w5, w4.setCell ⟨g, off + 1, none⟩ (.int .i64 a) = w5 := ⟨_, rfl⟩
  have hP5 := T4.out.at_.put_pc a
  rw [hw5] at hP5
  have T5 := Lib.hid (T4.out.trans hP5)
  have R15 := Lib.hid (hP5.row R1.out (AP.out _ (Nat.le_refl _)).1 (AP.out _ (Nat.le_refl _)).2.1 (AP.out _ (Nat.le_refl _)).2.2)
  have R25 := Lib.hid (hP5.row R2.out (AP.out _ (show w.heap.size ≤ w1.heap.size by have := Y.out; omega)).1 (AP.out _ (show w.heap.size ≤ w1.heap.size by have := Y.out; omega)).2.1 (AP.out _ (show w.heap.size ≤ w1.heap.size by have := Y.out; omega)).2.2)
  clear hP5 fz4
  obtain ⟨l0, l1, l2, l3, l4, l5, l6, l7, l8⟩ := row9 R25.out
  have pz := put9 R15.out rfl (.int .i64 0) (.int .i64 0) (.int .i64 (fuel - 1)) (.int .i64 0) (.slice none 0 0) (.int .i64 0) (.bool false) (.int .i64 0) (.bool false)
  obtain ⟨hE, hRz, hKz⟩ := pz
  have EE := Lib.hid hE
  have HR := Lib.hid (one_end (x := ⟨0, 0, fuel - 1, 0, [], 0, false, 0, false⟩) (jumps := false) (va := .slice none 0 0) T5.out (innI_nil _ _) (fun _ e => by cases e) hKz (Nat.le_refl _) (AP.out _ (Nat.le_refl _)).1 (AP.out _ (Nat.le_refl _)).2.1 (AP.out _ (Nat.le_refl _)).2.2 (fun e => by cases e))
  clear hE hRz hKz
  obtain ⟨q0, q1, q2, q3, q4, q5, q6, q7, q8⟩ := row9 R15.out
  have z_ := fun k => (R15.out).free k
  have z0 := z_ 0
  have z1 := z_ 1
  have z2 := z_ 2
  have z3 := z_ 3
  have z4 := z_ 4
  have z5 := z_ 5
  have z6 := z_ 6
  have z7 := z_ 7
  have z8 := z_ 8
  clear z_
  go_wp2_with fail
  exact bodyPost_ret (v := .tuple #[.agg (excC (⟨0, 0, fuel - 1, 0, [], 0, false, 0, false⟩) (.slice none 0 0)).toArray, .bool false]) (by simp [results, Tryz.results129, go_sem, excC, EE.out.1, EE.out.2.1, EE.out.2.2.1, EE.out.2.2.2.1, EE.out.2.2.2.2.1, EE.out.2.2.2.2.2.1, EE.out.2.2.2.2.2.2.1, EE.out.2.2.2.2.2.2.2.1, EE.out.2.2.2.2.2.2.2.2]) rfl HR.out

set_option maxRecDepth 100000 in
set_option maxHeartbeats 8000000 in
theorem lone13y {w W0 : World} {base g off cp : Nat} {P : Addr} {p : List Fn} {Ap : Option Addr} {f : Frm} {v1 v2 : Value} (h : FAt w base g off f v1 v2) (hb : base ≤ w.heap.size) (hW : Below W0.heap.size W0 w) (hP : W0.cell? P = some (.slice Ap p.length cp)) (hr : ReadsF W0 Ap p)
    {fn pc : Nat} (efn : f.fn = fn) (epc : f.pc = pc) (hfn : fn < p.length) (hpc : pc < p[fn].code.length) {a : Int} (hi : p[fn].code[pc] = ⟨13, a⟩) (fuel d : Int) (hf : 0 < fuel) (hf2 : fuel ≤ 100000) (h64 : p[fn].code.length ≤ 1000) (ht : 0 < f.stack.length) (hv : lastN f.stack = 0) :
    Calls Tryz.prog 129 #[.pointer (some P), .pointer (some ⟨g, off, none⟩), .int .i64 fuel, .int .i64 d] w (OneE (⟨f.fn, a, f.locals, f.stack.dropLast⟩) (⟨0, 0, fuel - 1, 0, [], 0, false, 0, false⟩) true base g off v1 v2 w) := by
  have d0 : (fuel == 0) = false := beq_eq_false_iff_ne.2 (by omega)
  have hfw : wrap64 (fuel - 1) = fuel - 1 := by unfold wrap64; omega
  have hpw : wrap64 ((pc : Int) + 1) = pc + 1 := by unfold wrap64; omega
  obtain ⟨w1, hw1⟩ : ∃ w1, w.alloc (.cells #[.int .i64 0, .int .i64 0, .int .i64 0, .int .i64 0, .slice none 0 0, .int .i64 0, .bool false, .int .i64 0, .bool false] 95) = w1 := ⟨_, rfl⟩
  obtain ⟨w2, hw2⟩ : ∃ w2, w1.alloc (.cells #[.int .i64 0, .int .i64 0, .int .i64 (fuel - 1), .int .i64 0, .slice none 0 0, .int .i64 0, .bool false, .int .i64 0, .bool false] 95) = w2 := ⟨_, rfl⟩
  have b1 : Below w.heap.size w w1 := hw1 ▸ below_alloc (Below.refl _ _) _
  have b2 : Below w1.heap.size w1 w2 := hw2 ▸ below_alloc (Below.refl _ _) _
  have b02 := below_trans b1 b2
  have y1 : w1.heap.size = w.heap.size + 1 := by rw [← hw1]; simp
  have y2 : w2.heap.size = w.heap.size + 2 := by rw [← hw2]; simp [y1]
  have r1 : RowAt 95 w.heap.size [.int .i64 0, .int .i64 0, .int .i64 0, .int .i64 0, .slice none 0 0, .int .i64 0, .bool false, .int .i64 0, .bool false] w2 := (hw1 ▸ RowAt.new _ _ w : RowAt 95 w.heap.size [.int .i64 0, .int .i64 0, .int .i64 0, .int .i64 0, .slice none 0 0, .int .i64 0, .bool false, .int .i64 0, .bool false] w1).below b2
  have r2 : RowAt 95 w1.heap.size [.int .i64 0, .int .i64 0, .int .i64 (fuel - 1), .int .i64 0, .slice none 0 0, .int .i64 0, .bool false, .int .i64 0, .bool false] w2 := hw2 ▸ RowAt.new _ _ w1
  have hF := h.below b02
  have hW2 := below_trans hW b02
  obtain ⟨ad, Ac, cc, rfl, c2, c0, c1, _⟩ := code_at hr hW2 hfn hpc
  have kP := cell_below hW2 hP
  obtain ⟨m0, m1, m2, m3, fz⟩ := hF.cells
  rw [efn] at m0
  rw [epc] at m1
  rw [hi] at c0 c1
  simp only at c0 c1
  have hpl := hr.1
  have HR1 := Lib.hid r1
  have HR2 := Lib.hid r2
  have HT2 := Lib.hid (FTurn.of_below h b02)
  have HW2 := Lib.hid hW2
  have AP := Lib.hid (fun (x : Nat) (hx : w.heap.size ≤ x) => h.apart hx)
  have Y := Lib.hid (And.intro y1 y2)
  have HB := Lib.hid hb
  have HW := Lib.hid hW
  have HV2 := Lib.hid h.lo2
  have HPP := Lib.hid (And.intro hP hr)
  have efn' := Lib.hid efn
  subst hw2
  clear y1 y2 h hb hW hP hr hi r1 r2 hF hW2 fz m2 m3 b1 b2 b02 efn
  go_enter Tryz.func129, Tryz.ntmps129
  go_upto_region 4 with fail
  generalize hw2 : w1.alloc (.cells #[.int .i64 0, .int .i64 0, .int .i64 (fuel - 1), .int .i64 0, .slice none 0 0, .int .i64 0, .bool false, .int .i64 0, .bool false] 95) = w2 at *
  clear hw1 hw2
  have b3 := below_alloc (Below.refl w2.heap.size w2) (.cells #[.int .i64 0, .int .i64 0] 48)
  have kP3 := cell_below b3 kP
  have c23 := cell_below b3 c2
  have c03 := cell_below b3 c0
  have c13 := cell_below b3 c1
  have m03 := cell_below b3 m0
  have m13 := cell_below b3 m1
  clear b3
  go_region
  clear kP3 c23 c03 c13 m03 m13 kP c0 c1 c2 m0 m1
  have b3 : Below w2.heap.size w2 (w2.alloc (.cells #[.int .i64 13, .int .i64 a] 48)).drew := below_drw (below_alloc (Below.refl w2.heap.size w2) _)
  have rI : RowAt 48 w2.heap.size [.int .i64 13, .int .i64 a] (w2.alloc (.cells #[.int .i64 13, .int .i64 a] 48)).drew := RowAt.new _ _ w2
  generalize hw3 : (w2.alloc (.cells #[.int .i64 13, .int .i64 a] 48)).drew = w3 at *
  have T3 := HT2.out.after b3
  obtain ⟨_, m1, _, _, fz⟩ := T3.at_.cells
  rw [epc] at m1
  have hz1 := fz (off + 1)
  obtain ⟨w4, hw4⟩ : ∃ w4, w3.setCell ⟨g, off + 1, none⟩ (.int .i64 ((pc : Int) + 1)) = w4 := ⟨_, rfl⟩
  have hP4 := T3.at_.put_pc ((pc : Int) + 1)
  rw [hw4] at hP4
  have T4 := Lib.hid (T3.trans hP4)
  have row4 : ∀ {t b : Nat} {cs : List Value}, RowAt t b cs w2 → w.heap.size ≤ b → RowAt t b cs w4 := fun hr hx => hP4.row (hr.below b3) (AP.out _ hx).1 (AP.out _ hx).2.1 (AP.out _ hx).2.2
  have rI4 := hP4.row rI (AP.out _ (show w.heap.size ≤ w2.heap.size by have := Y.out; omega)).1 (AP.out _ (show w.heap.size ≤ w2.heap.size by have := Y.out; omega)).2.1 (AP.out _ (show w.heap.size ≤ w2.heap.size by have := Y.out; omega)).2.2
  have R1 := Lib.hid (row4 HR1.out (Nat.le_refl _))
  have R2 := Lib.hid (row4 HR2.out (by have := Y.out; omega))
  have RI := Lib.hid rI4
  have i0 := rI4.cell (k := 0) (by simp)
  have i1 := rI4.cell (k := 1) (by simp)
  simp only [List.getElem_cons_zero, List.getElem_cons_succ] at i0 i1
  have S4 := Lib.hid (show w2.heap.size < w4.heap.size from blk_lt rI4)
  clear T3 hP4 row4 rI4 rI fz HT2 HR1 HR2
  have H := Lib.hid (pop_at T4.out.at_ ht)
  have hvb : (lastN f.stack == 0) = true := by simpa using hv
  clear hv
  go_wp2_with fail
  (with_reducible refine H.out.mono ?_)
  rintro e w5 ⟨u, rfl, q⟩
  have T5 := Lib.hid (T4.out.trans q)
  have NU := Lib.hid (show ob u ≠ some w.heap.size from fun e => by
    rcases q.new _ e with e | e
    · exact (AP.out _ (Nat.le_refl _)).2.2 e
    · have := S4.out; have := Y.out; omega)
  have NX := Lib.hid (show ob u ≠ some w1.heap.size from fun e => by
    rcases q.new _ e with e | e
    · exact (AP.out _ (show w.heap.size ≤ w1.heap.size by have := Y.out; omega)).2.2 e
    · have := S4.out; have := Y.out; omega)
  have R15 := Lib.hid (q.row R1.out (AP.out _ (Nat.le_refl _)).1 (AP.out _ (Nat.le_refl _)).2.1 (AP.out _ (Nat.le_refl _)).2.2)
  have R25 := Lib.hid (q.row R2.out (AP.out _ (show w.heap.size ≤ w1.heap.size by have := Y.out; omega)).1 (AP.out _ (show w.heap.size ≤ w1.heap.size by have := Y.out; omega)).2.1 (AP.out _ (show w.heap.size ≤ w1.heap.size by have := Y.out; omega)).2.2)
  have RI5 := Lib.hid (q.row RI.out (AP.out _ (show w.heap.size ≤ w2.heap.size by have := Y.out; omega)).1 (AP.out _ (show w.heap.size ≤ w2.heap.size by have := Y.out; omega)).2.1 (AP.out _ (show w.heap.size ≤ w2.heap.size by have := Y.out; omega)).2.2)
  clear q i0 i1
  obtain ⟨_, n1, _, _, fz4⟩ := T5.out.at_.cells
  have hz4 := fz4 (off + 1)
  have j1 := RI5.out.cell (k := 1) (by simp)
  simp only [List.getElem_cons_zero, List.getElem_cons_succ] at j1
  obtain ⟨w6, hw6⟩ : ∃ w6, w5.setCell ⟨g, off + 1, none⟩ (.int .i64 a) = w6 := ⟨_, rfl⟩
  have hP5 := T5.out.at_.put_pc a
  rw [hw6] at hP5
  have T6 := Lib.hid (T5.out.trans hP5)
  have R16 := Lib.hid (hP5.row R15.out (AP.out _ (Nat.le_refl _)).1 (AP.out _ (Nat.le_refl _)).2.1 NU.out)
  have R26 := Lib.hid (hP5.row R25.out (AP.out _ (show w.heap.size ≤ w1.heap.size by have := Y.out; omega)).1 (AP.out _ (show w.heap.size ≤ w1.heap.size by have := Y.out; omega)).2.1 NX.out)
  clear hP5 fz4
  obtain ⟨l0, l1, l2, l3, l4, l5, l6, l7, l8⟩ := row9 R26.out
  have pz := put9 R16.out rfl (.int .i64 0) (.int .i64 0) (.int .i64 (fuel - 1)) (.int .i64 0) (.slice none 0 0) (.int .i64 0) (.bool false) (.int .i64 0) (.bool false)
  obtain ⟨hE, hRz, hKz⟩ := pz
  have EE := Lib.hid hE
  have HR := Lib.hid (one_end (x := ⟨0, 0, fuel - 1, 0, [], 0, false, 0, false⟩) (jumps := true) (va := .slice none 0 0) T6.out (innI_nil _ _) (fun _ e => by cases e) hKz (Nat.le_refl _) (AP.out _ (Nat.le_refl _)).1 (AP.out _ (Nat.le_refl _)).2.1 NU.out (fun e => by cases e))
  clear hE hRz hKz
  obtain ⟨q0, q1, q2, q3, q4, q5, q6, q7, q8⟩ := row9 R16.out
  have z_ := fun k => (R16.out).free k
  have z0 := z_ 0
  have z1 := z_ 1
  have z2 := z_ 2
  have z3 := z_ 3
  have z4 := z_ 4
  have z5 := z_ 5
  have z6 := z_ 6
  have z7 := z_ 7
  have z8 := z_ 8
  clear z_
  go_wp2_with fail
  exact bodyPost_ret (v := .tuple #[.agg (excC (⟨0, 0, fuel - 1, 0, [], 0, false, 0, false⟩) (.slice none 0 0)).toArray, .bool true]) (by simp [results, Tryz.results129, go_sem, excC, EE.out.1, EE.out.2.1, EE.out.2.2.1, EE.out.2.2.2.1, EE.out.2.2.2.2.1, EE.out.2.2.2.2.2.1, EE.out.2.2.2.2.2.2.1, EE.out.2.2.2.2.2.2.2.1, EE.out.2.2.2.2.2.2.2.2]) rfl HR.out

set_option maxRecDepth 100000 in
set_option maxHeartbeats 8000000 in
theorem lone13n {w W0 : World} {base g off cp : Nat} {P : Addr} {p : List Fn} {Ap : Option Addr} {f : Frm} {v1 v2 : Value} (h : FAt w base g off f v1 v2) (hb : base ≤ w.heap.size) (hW : Below W0.heap.size W0 w) (hP : W0.cell? P = some (.slice Ap p.length cp)) (hr : ReadsF W0 Ap p)
    {fn pc : Nat} (efn : f.fn = fn) (epc : f.pc = pc) (hfn : fn < p.length) (hpc : pc < p[fn].code.length) {a : Int} (hi : p[fn].code[pc] = ⟨13, a⟩) (fuel d : Int) (hf : 0 < fuel) (hf2 : fuel ≤ 100000) (h64 : p[fn].code.length ≤ 1000) (ht : 0 < f.stack.length) (hv : lastN f.stack ≠ 0) :
    Calls Tryz.prog 129 #[.pointer (some P), .pointer (some ⟨g, off, none⟩), .int .i64 fuel, .int .i64 d] w (OneE (⟨f.fn, (pc : Int) + 1, f.locals, f.stack.dropLast⟩) (⟨0, 0, fuel - 1, 0, [], 0, false, 0, false⟩) false base g off v1 v2 w) := by
  have d0 : (fuel == 0) = false := beq_eq_false_iff_ne.2 (by omega)
  have hfw : wrap64 (fuel - 1) = fuel - 1 := by unfold wrap64; omega
  have hpw : wrap64 ((pc : Int) + 1) = pc + 1 := by unfold wrap64; omega
  obtain ⟨w1, hw1⟩ : ∃ w1, w.alloc (.cells #[.int .i64 0, .int .i64 0, .int .i64 0, .int .i64 0, .slice none 0 0, .int .i64 0, .bool false, .int .i64 0, .bool false] 95) = w1 := ⟨_, rfl⟩
  obtain ⟨w2, hw2⟩ : ∃ w2, w1.alloc (.cells #[.int .i64 0, .int .i64 0, .int .i64 (fuel - 1), .int .i64 0, .slice none 0 0, .int .i64 0, .bool false, .int .i64 0, .bool false] 95) = w2 := ⟨_, rfl⟩
  have b1 : Below w.heap.size w w1 := hw1 ▸ below_alloc (Below.refl _ _) _
  have b2 : Below w1.heap.size w1 w2 := hw2 ▸ below_alloc (Below.refl _ _) _
  have b02 := below_trans b1 b2
  have y1 : w1.heap.size = w.heap.size + 1 := by rw [← hw1]; simp
  have y2 : w2.heap.size = w.heap.size + 2 := by rw [← hw2]; simp [y1]
  have r1 : RowAt 95 w.heap.size [.int .i64 0, .int .i64 0, .int .i64 0, .int .i64 0, .slice none 0 0, .int .i64 0, .bool false, .int .i64 0, .bool false] w2 := (hw1 ▸ RowAt.new _ _ w : RowAt 95 w.heap.size [.int .i64 0, .int .i64 0, .int .i64 0, .int .i64 0, .slice none 0 0, .int .i64 0, .bool false, .int .i64 0, .bool false] w1).below b2
  have r2 : RowAt 95 w1.heap.size [.int .i64 0, .int .i64 0, .int .i64 (fuel - 1), .int .i64 0, .slice none 0 0, .int .i64 0, .bool false, .int .i64 0, .bool false] w2 := hw2 ▸ RowAt.new _ _ w1
  have hF := h.below b02
  have hW2 := below_trans hW b02
  obtain ⟨ad, Ac, cc, rfl, c2, c0, c1, _⟩ := code_at hr hW2 hfn hpc
  have kP := cell_below hW2 hP
  obtain ⟨m0, m1, m2, m3, fz⟩ := hF.cells
  rw [efn] at m0
  rw [epc] at m1
  rw [hi] at c0 c1
  simp only at c0 c1
  have hpl := hr.1
  have HR1 := Lib.hid r1
  have HR2 := Lib.hid r2
  have HT2 := Lib.hid (FTurn.of_below h b02)
  have HW2 := Lib.hid hW2
  have AP := Lib.hid (fun (x : Nat) (hx : w.heap.size ≤ x) => h.apart hx)
  have Y := Lib.hid (And.intro y1 y2)
  have HB := Lib.hid hb
  have HW := Lib.hid hW
  have HV2 := Lib.hid h.lo2
  have HPP := Lib.hid (And.intro hP hr)
  have efn' := Lib.hid efn
  subst hw2
  clear y1 y2 h hb hW hP hr hi r1 r2 hF hW2 fz m2 m3 b1 b2 b02 efn
  go_enter Tryz.func129, Tryz.ntmps129
  go_upto_region 4 with fail
  generalize hw2 : w1.alloc (.cells #[.int .i64 0, .int .i64 0, .int .i64 (fuel - 1), .int .i64 0, .slice none 0 0, .int .i64 0, .bool false, .int .i64 0, .bool false] 95) = w2 at *
  clear hw1 hw2
  have b3 := below_alloc (Below.refl w2.heap.size w2) (.cells #[.int .i64 0, .int .i64 0] 48)
  have kP3 := cell_below b3 kP
  have c23 := cell_below b3 c2
  have c03 := cell_below b3 c0
  have c13 := cell_below b3 c1
  have m03 := cell_below b3 m0
  have m13 := cell_below b3 m1
  clear b3
  go_region
  clear kP3 c23 c03 c13 m03 m13 kP c0 c1 c2 m0 m1
  have b3 : Below w2.heap.size w2 (w2.alloc (.cells #[.int .i64 13, .int .i64 a] 48)).drew := below_drw (below_alloc (Below.refl w2.heap.size w2) _)
  have rI : RowAt 48 w2.heap.size [.int .i64 13, .int .i64 a] (w2.alloc (.cells #[.int .i64 13, .int .i64 a] 48)).drew := RowAt.new _ _ w2
  generalize hw3 : (w2.alloc (.cells #[.int .i64 13, .int .i64 a] 48)).drew = w3 at *
  have T3 := HT2.out.after b3
  obtain ⟨_, m1, _, _, fz⟩ := T3.at_.cells
  rw [epc] at m1
  have hz1 := fz (off + 1)
  obtain ⟨w4, hw4⟩ : ∃ w4, w3.setCell ⟨g, off + 1, none⟩ (.int .i64 ((pc : Int) + 1)) = w4 := ⟨_, rfl⟩
  have hP4 := T3.at_.put_pc ((pc : Int) + 1)
  rw [hw4] at hP4
  have T4 := Lib.hid (T3.trans hP4)
  have row4 : ∀ {t b : Nat} {cs : List Value}, RowAt t b cs w2 → w.heap.size ≤ b → RowAt t b cs w4 := fun hr hx => hP4.row (hr.below b3) (AP.out _ hx).1 (AP.out _ hx).2.1 (AP.out _ hx).2.2
  have rI4 := hP4.row rI (AP.out _ (show w.heap.size ≤ w2.heap.size by have := Y.out; omega)).1 (AP.out _ (show w.heap.size ≤ w2.heap.size by have := Y.out; omega)).2.1 (AP.out _ (show w.heap.size ≤ w2.heap.size by have := Y.out; omega)).2.2
  have R1 := Lib.hid (row4 HR1.out (Nat.le_refl _))
  have R2 := Lib.hid (row4 HR2.out (by have := Y.out; omega))
  have RI := Lib.hid rI4
  have i0 := rI4.cell (k := 0) (by simp)
  have i1 := rI4.cell (k := 1) (by simp)
  simp only [List.getElem_cons_zero, List.getElem_cons_succ] at i0 i1
  have S4 := Lib.hid (show w2.heap.size < w4.heap.size from blk_lt rI4)
  clear T3 hP4 row4 rI4 rI fz HT2 HR1 HR2
  have H := Lib.hid (pop_at T4.out.at_ ht)
  have hvb : (lastN f.stack == 0) = false := by simpa using hv
  clear hv
  go_wp2_with fail
  (with_reducible refine H.out.mono ?_)
  rintro e w5 ⟨u, rfl, q⟩
  have T5 := Lib.hid (T4.out.trans q)
  have NU := Lib.hid (show ob u ≠ some w.heap.size from fun e => by
    rcases q.new _ e with e | e
    · exact (AP.out _ (Nat.le_refl _)).2.2 e
    · have := S4.out; have := Y.out; omega)
  have NX := Lib.hid (show ob u ≠ some w1.heap.size from fun e => by
    rcases q.new _ e with e | e
    · exact (AP.out _ (show w.heap.size ≤ w1.heap.size by have := Y.out; omega)).2.2 e
    · have := S4.out; have := Y.out; omega)
  have R15 := Lib.hid (q.row R1.out (AP.out _ (Nat.le_refl _)).1 (AP.out _ (Nat.le_refl _)).2.1 (AP.out _ (Nat.le_refl _)).2.2)
  have R25 := Lib.hid (q.row R2.out (AP.out _ (show w.heap.size ≤ w1.heap.size by have := Y.out; omega)).1 (AP.out _ (show w.heap.size ≤ w1.heap.size by have := Y.out; omega)).2.1 (AP.out _ (show w.heap.size ≤ w1.heap.size by have := Y.out; omega)).2.2)
  have RI5 := Lib.hid (q.row RI.out (AP.out _ (show w.heap.size ≤ w2.heap.size by have := Y.out; omega)).1 (AP.out _ (show w.heap.size ≤ w2.heap.size by have := Y.out; omega)).2.1 (AP.out _ (show w.heap.size ≤ w2.heap.size by have := Y.out; omega)).2.2)
  clear q i0 i1
  obtain ⟨l0, l1, l2, l3, l4, l5, l6, l7, l8⟩ := row9 R25.out
  have pz := put9 R15.out rfl (.int .i64 0) (.int .i64 0) (.int .i64 (fuel - 1)) (.int .i64 0) (.slice none 0 0) (.int .i64 0) (.bool false) (.int .i64 0) (.bool false)
  obtain ⟨hE, hRz, hKz⟩ := pz
  have EE := Lib.hid hE
  have HR := Lib.hid (one_end (x := ⟨0, 0, fuel - 1, 0, [], 0, false, 0, false⟩) (jumps := false) (va := .slice none 0 0) T5.out (innI_nil _ _) (fun _ e => by cases e) hKz (Nat.le_refl _) (AP.out _ (Nat.le_refl _)).1 (AP.out _ (Nat.le_refl _)).2.1 NU.out (fun e => by cases e))
  clear hE hRz hKz
  obtain ⟨q0, q1, q2, q3, q4, q5, q6, q7, q8⟩ := row9 R15.out
  have z_ := fun k => (R15.out).free k
  have z0 := z_ 0
  have z1 := z_ 1
  have z2 := z_ 2
  have z3 := z_ 3
  have z4 := z_ 4
  have z5 := z_ 5
  have z6 := z_ 6
  have z7 := z_ 7
  have z8 := z_ 8
  clear z_
  go_wp2_with fail
  exact bodyPost_ret (v := .tuple #[.agg (excC (⟨0, 0, fuel - 1, 0, [], 0, false, 0, false⟩) (.slice none 0 0)).toArray, .bool false]) (by simp [results, Tryz.results129, go_sem, excC, EE.out.1, EE.out.2.1, EE.out.2.2.1, EE.out.2.2.2.1, EE.out.2.2.2.2.1, EE.out.2.2.2.2.2.1, EE.out.2.2.2.2.2.2.1, EE.out.2.2.2.2.2.2.2.1, EE.out.2.2.2.2.2.2.2.2]) rfl HR.out

set_option maxRecDepth 100000 in
set_option maxHeartbeats 8000000 in
theorem lone15 {w W0 : World} {base g off cp : Nat} {P : Addr} {p : List Fn} {Ap : Option Addr} {f : Frm} {v1 v2 : Value} (h : FAt w base g off f v1 v2) (hb : base ≤ w.heap.size) (hW : Below W0.heap.size W0 w) (hP : W0.cell? P = some (.slice Ap p.length cp)) (hr : ReadsF W0 Ap p)
    {fn pc : Nat} (efn : f.fn = fn) (epc : f.pc = pc) (hfn : fn < p.length) (hpc : pc < p[fn].code.length) {a : Int} (hi : p[fn].code[pc] = ⟨15, a⟩) (fuel d : Int) (hf : 0 < fuel) (hf2 : fuel ≤ 100000) (h64 : p[fn].code.length ≤ 1000) (ht : 0 < f.stack.length) :
    Calls Tryz.prog 129 #[.pointer (some P), .pointer (some ⟨g, off, none⟩), .int .i64 fuel, .int .i64 d] w (OneE (⟨f.fn, (pc : Int) + 1, f.locals, f.stack.dropLast⟩) (⟨0, 0, fuel - 1, 0, [], lastN f.stack, true, 0, false⟩) false base g off v1 v2 w) := by
  have d0 : (fuel == 0) = false := beq_eq_false_iff_ne.2 (by omega)
  have hfw : wrap64 (fuel - 1) = fuel - 1 := by unfold wrap64; omega
  have hpw : wrap64 ((pc : Int) + 1) = pc + 1 := by unfold wrap64; omega
  obtain ⟨w1, hw1⟩ : ∃ w1, w.alloc (.cells #[.int .i64 0, .int .i64 0, .int .i64 0, .int .i64 0, .slice none 0 0, .int .i64 0, .bool false, .int .i64 0, .bool false] 95) = w1 := ⟨_, rfl⟩
  obtain ⟨w2, hw2⟩ : ∃ w2, w1.alloc (.cells #[.int .i64 0, .int .i64 0, .int .i64 (fuel - 1), .int .i64 0, .slice none 0 0, .int .i64 0, .bool false, .int .i64 0, .bool false] 95) = w2 := ⟨_, rfl⟩
  have b1 : Below w.heap.size w w1 := hw1 ▸ below_alloc (Below.refl _ _) _
  have b2 : Below w1.heap.size w1 w2 := hw2 ▸ below_alloc (Below.refl _ _) _
  have b02 := below_trans b1 b2
  have y1 : w1.heap.size = w.heap.size + 1 := by rw [← hw1]; simp
  have y2 : w2.heap.size = w.heap.size + 2 := by rw [← hw2]; simp [y1]
  have r1 : RowAt 95 w.heap.size [.int .i64 0, .int .i64 0, .int .i64 0, .int .i64 0, .slice none 0 0, .int .i64 0, .bool false, .int .i64 0, .bool false] w2 := (hw1 ▸ RowAt.new _ _ w : RowAt 95 w.heap.size [.int .i64 0, .int .i64 0, .int .i64 0, .int .i64 0, .slice none 0 0, .int .i64 0, .bool false, .int .i64 0, .bool false] w1).below b2
  have r2 : RowAt 95 w1.heap.size [.int .i64 0, .int .i64 0, .int .i64 (fuel - 1), .int .i64 0, .slice none 0 0, .int .i64 0, .bool false, .int .i64 0, .bool false] w2 := hw2 ▸ RowAt.new _ _ w1
  have hF := h.below b02
  have hW2 := below_trans hW b02
  obtain ⟨ad, Ac, cc, rfl, c2, c0, c1, _⟩ := code_at hr hW2 hfn hpc
  have kP := cell_below hW2 hP
  obtain ⟨m0, m1, m2, m3, fz⟩ := hF.cells
  rw [efn] at m0
  rw [epc] at m1
  rw [hi] at c0 c1
  simp only at c0 c1
  have hpl := hr.1
  have HR1 := Lib.hid r1
  have HR2 := Lib.hid r2
  have HT2 := Lib.hid (FTurn.of_below h b02)
  have HW2 := Lib.hid hW2
  have AP := Lib.hid (fun (x : Nat) (hx : w.heap.size ≤ x) => h.apart hx)
  have Y := Lib.hid (And.intro y1 y2)
  have HB := Lib.hid hb
  have HW := Lib.hid hW
  have HV2 := Lib.hid h.lo2
  have HPP := Lib.hid (And.intro hP hr)
  have efn' := Lib.hid efn
  subst hw2
  clear y1 y2 h hb hW hP hr hi r1 r2 hF hW2 fz m2 m3 b1 b2 b02 efn
  go_enter Tryz.func129, Tryz.ntmps129
  go_upto_region 4 with fail
  generalize hw2 : w1.alloc (.cells #[.int .i64 0, .int .i64 0, .int .i64 (fuel - 1), .int .i64 0, .slice none 0 0, .int .i64 0, .bool false, .int .i64 0, .bool false] 95) = w2 at *
  clear hw1 hw2
  have b3 := below_alloc (Below.refl w2.heap.size w2) (.cells #[.int .i64 0, .int .i64 0] 48)
  have kP3 := cell_below b3 kP
  have c23 := cell_below b3 c2
  have c03 := cell_below b3 c0
  have c13 := cell_below b3 c1
  have m03 := cell_below b3 m0
  have m13 := cell_below b3 m1
  clear b3
  go_region
  clear kP3 c23 c03 c13 m03 m13 kP c0 c1 c2 m0 m1
  have b3 : Below w2.heap.size w2 (w2.alloc (.cells #[.int .i64 15, .int .i64 a] 48)).drew := below_drw (below_alloc (Below.refl w2.heap.size w2) _)
  have rI : RowAt 48 w2.heap.size [.int .i64 15, .int .i64 a] (w2.alloc (.cells #[.int .i64 15, .int .i64 a] 48)).drew := RowAt.new _ _ w2
  generalize hw3 : (w2.alloc (.cells #[.int .i64 15, .int .i64 a] 48)).drew = w3 at *
  have T3 := HT2.out.after b3
  obtain ⟨_, m1, _, _, fz⟩ := T3.at_.cells
  rw [epc] at m1
  have hz1 := fz (off + 1)
  obtain ⟨w4, hw4⟩ : ∃ w4, w3.setCell ⟨g, off + 1, none⟩ (.int .i64 ((pc : Int) + 1)) = w4 := ⟨_, rfl⟩
  have hP4 := T3.at_.put_pc ((pc : Int) + 1)
  rw [hw4] at hP4
  have T4 := Lib.hid (T3.trans hP4)
  have row4 : ∀ {t b : Nat} {cs : List Value}, RowAt t b cs w2 → w.heap.size ≤ b → RowAt t b cs w4 := fun hr hx => hP4.row (hr.below b3) (AP.out _ hx).1 (AP.out _ hx).2.1 (AP.out _ hx).2.2
  have rI4 := hP4.row rI (AP.out _ (show w.heap.size ≤ w2.heap.size by have := Y.out; omega)).1 (AP.out _ (show w.heap.size ≤ w2.heap.size by have := Y.out; omega)).2.1 (AP.out _ (show w.heap.size ≤ w2.heap.size by have := Y.out; omega)).2.2
  have R1 := Lib.hid (row4 HR1.out (Nat.le_refl _))
  have R2 := Lib.hid (row4 HR2.out (by have := Y.out; omega))
  have RI := Lib.hid rI4
  have i0 := rI4.cell (k := 0) (by simp)
  have i1 := rI4.cell (k := 1) (by simp)
  simp only [List.getElem_cons_zero, List.getElem_cons_succ] at i0 i1
  have S4 := Lib.hid (show w2.heap.size < w4.heap.size from blk_lt rI4)
  clear T3 hP4 row4 rI4 rI fz HT2 HR1 HR2
  have H := Lib.hid (pop_at T4.out.at_ ht)
  go_wp2_with fail
  (with_reducible refine H.out.mono ?_)
  rintro e w5 ⟨u, rfl, q⟩
  have T5 := Lib.hid (T4.out.trans q)
  have NU := Lib.hid (show ob u ≠ some w.heap.size from fun e => by
    rcases q.new _ e with e | e
    · exact (AP.out _ (Nat.le_refl _)).2.2 e
    · have := S4.out; have := Y.out; omega)
  have NX := Lib.hid (show ob u ≠ some w1.heap.size from fun e => by
    rcases q.new _ e with e | e
    · exact (AP.out _ (show w.heap.size ≤ w1.heap.size by have := Y.out; omega)).2.2 e
    · have := S4.out; have := Y.out; omega)
  have R15 := Lib.hid (q.row R1.out (AP.out _ (Nat.le_refl _)).1 (AP.out _ (Nat.le_refl _)).2.1 (AP.out _ (Nat.le_refl _)).2.2)
  have R25 := Lib.hid (q.row R2.out (AP.out _ (show w.heap.size ≤ w1.heap.size by have := Y.out; omega)).1 (AP.out _ (show w.heap.size ≤ w1.heap.size by have := Y.out; omega)).2.1 (AP.out _ (show w.heap.size ≤ w1.heap.size by have := Y.out; omega)).2.2)
  have RI5 := Lib.hid (q.row RI.out (AP.out _ (show w.heap.size ≤ w2.heap.size by have := Y.out; omega)).1 (AP.out _ (show w.heap.size ≤ w2.heap.size by have := Y.out; omega)).2.1 (AP.out _ (show w.heap.size ≤ w2.heap.size by have := Y.out; omega)).2.2)
  clear q i0 i1
  have s1 := R25.out.put 6 (.bool true)
  have s2 := s1.put 5 (.int .i64 (lastN f.stack))
  obtain ⟨x1, q1⟩ : ∃ c, w5.cell? ⟨w1.heap.size, 6, none⟩ = some c := ⟨_, R25.out.cell (k := 6) (by simp)⟩
  obtain ⟨x2, q2⟩ : ∃ c, (w5.setCell ⟨w1.heap.size, 6, none⟩ (.bool true)).cell? ⟨w1.heap.size, 5, none⟩ = some c := ⟨_, s1.cell (k := 5) (by simp)⟩
  have z1 := R25.out.free 6
  have z2 := s1.free 5
  obtain ⟨w6, hw6⟩ : ∃ w6, (w5.setCell ⟨w1.heap.size, 6, none⟩ (.bool true)).setCell ⟨w1.heap.size, 5, none⟩ (.int .i64 (lastN f.stack)) = w6 := ⟨_, rfl⟩
  have kc : Chg (fun b => b = w1.heap.size) w5 w6 := hw6 ▸ ((Chg.refl (fun b => b = w1.heap.size) w5).put (a := ⟨w1.heap.size, 6, none⟩) rfl _).put (a := ⟨w1.heap.size, 5, none⟩) rfl _
  rw [hw6] at s2
  have R26 := Lib.hid (show RowAt 95 w1.heap.size [.int .i64 0, .int .i64 0, .int .i64 (fuel - 1), .int .i64 0, .slice none 0 0, .int .i64 (lastN f.stack), .bool true, .int .i64 0, .bool false] w6 from s2)
  have R16 := Lib.hid (R15.out.chg kc (show ¬ w.heap.size = w1.heap.size by have := Y.out; omega))
  have T6 := Lib.hid (T5.out.past kc (show w.heap.size ≤ w1.heap.size by have := Y.out; omega) (AP.out _ (show w.heap.size ≤ w1.heap.size by have := Y.out; omega)).1 (AP.out _ (show w.heap.size ≤ w1.heap.size by have := Y.out; omega)).2.1 NX.out)
  clear s1 s2 kc
  obtain ⟨l0, l1, l2, l3, l4, l5, l6, l7, l8⟩ := row9 R26.out
  have pz := put9 R16.out rfl (.int .i64 0) (.int .i64 0) (.int .i64 (fuel - 1)) (.int .i64 0) (.slice none 0 0) (.int .i64 (lastN f.stack)) (.bool true) (.int .i64 0) (.bool false)
  obtain ⟨hE, hRz, hKz⟩ := pz
  have EE := Lib.hid hE
  have HR := Lib.hid (one_end (x := ⟨0, 0, fuel - 1, 0, [], lastN f.stack, true, 0, false⟩) (jumps := false) (va := .slice none 0 0) T6.out (innI_nil _ _) (fun _ e => by cases e) hKz (Nat.le_refl _) (AP.out _ (Nat.le_refl _)).1 (AP.out _ (Nat.le_refl _)).2.1 NU.out (fun e => by cases e))
  clear hE hRz hKz
  obtain ⟨q0, q1, q2, q3, q4, q5, q6, q7, q8⟩ := row9 R16.out
  have z_ := fun k => (R16.out).free k
  have z0 := z_ 0
  have z1 := z_ 1
  have z2 := z_ 2
  have z3 := z_ 3
  have z4 := z_ 4
  have z5 := z_ 5
  have z6 := z_ 6
  have z7 := z_ 7
  have z8 := z_ 8
  clear z_
  go_wp2_with fail
  exact bodyPost_ret (v := .tuple #[.agg (excC (⟨0, 0, fuel - 1, 0, [], lastN f.stack, true, 0, false⟩) (.slice none 0 0)).toArray, .bool false]) (by simp [results, Tryz.results129, go_sem, excC, EE.out.1, EE.out.2.1, EE.out.2.2.1, EE.out.2.2.2.1, EE.out.2.2.2.2.1, EE.out.2.2.2.2.2.1, EE.out.2.2.2.2.2.2.1, EE.out.2.2.2.2.2.2.2.1, EE.out.2.2.2.2.2.2.2.2]) rfl HR.out

set_option maxRecDepth 100000 in
set_option maxHeartbeats 8000000 in
theorem lone16 {w W0 : World} {base g off cp : Nat} {P : Addr} {p : List Fn} {Ap : Option Addr} {f : Frm} {v1 v2 : Value} (h : FAt w base g off f v1 v2) (hb : base ≤ w.heap.size) (hW : Below W0.heap.size W0 w) (hP : W0.cell? P = some (.slice Ap p.length cp)) (hr : ReadsF W0 Ap p)
    {fn pc : Nat} (efn : f.fn = fn) (epc : f.pc = pc) (hfn : fn < p.length) (hpc : pc < p[fn].code.length) {a : Int} (hi : p[fn].code[pc] = ⟨16, a⟩) (fuel d : Int) (hf : 0 < fuel) (hf2 : fuel ≤ 100000) (h64 : p[fn].code.length ≤ 1000) (ht : 0 < f.stack.length) :
    Calls Tryz.prog 129 #[.pointer (some P), .pointer (some ⟨g, off, none⟩), .int .i64 fuel, .int .i64 d] w (OneE (⟨f.fn, (pc : Int) + 1, f.locals, f.stack.dropLast⟩) (⟨2, 0, fuel - 1, 0, [], lastN f.stack, false, 0, false⟩) false base g off v1 v2 w) := by
  have d0 : (fuel == 0) = false := beq_eq_false_iff_ne.2 (by omega)
  have hfw : wrap64 (fuel - 1) = fuel - 1 := by unfold wrap64; omega
  have hpw : wrap64 ((pc : Int) + 1) = pc + 1 := by unfold wrap64; omega
  obtain ⟨w1, hw1⟩ : ∃ w1, w.alloc (.cells #[.int .i64 0, .int .i64 0, .int .i64 0, .int .i64 0, .slice none 0 0, .int .i64 0, .bool false, .int .i64 0, .bool false] 95) = w1 := ⟨_, rfl⟩
  obtain ⟨w2, hw2⟩ : ∃ w2, w1.alloc (.cells #[.int .i64 0, .int .i64 0, .int .i64 (fuel - 1), .int .i64 0, .slice none 0 0, .int .i64 0, .bool false, .int .i64 0, .bool false] 95) = w2 := ⟨_, rfl⟩
  have b1 : Below w.heap.size w w1 := hw1 ▸ below_alloc (Below.refl _ _) _
  have b2 : Below w1.heap.size w1 w2 := hw2 ▸ below_alloc (Below.refl _ _) _
  have b02 := below_trans b1 b2
  have y1 : w1.heap.size = w.heap.size + 1 := by rw [← hw1]; simp
  have y2 : w2.heap.size = w.heap.size + 2 := by rw [← hw2]; simp [y1]
  have r1 : RowAt 95 w.heap.size [.int .i64 0, .int .i64 0, .int .i64 0, .int .i64 0, .slice none 0 0, .int .i64 0, .bool false, .int .i64 0, .bool false] w2 := (hw1 ▸ RowAt.new _ _ w : RowAt 95 w.heap.size [.int .i64 0, .int .i64 0, .int .i64 0, .int .i64 0, .slice none 0 0, .int .i64 0, .bool false, .int .i64 0, .bool false] w1).below b2
  have r2 : RowAt 95 w1.heap.size [.int .i64 0, .int .i64 0, .int .i64 (fuel - 1), .int .i64 0, .slice none 0 0, .int .i64 0, .bool false, .int .i64 0, .bool false] w2 := hw2 ▸ RowAt.new _ _ w1
  have hF := h.below b02
  have hW2 := below_trans hW b02
  obtain ⟨ad, Ac, cc, rfl, c2, c0, c1, _⟩ := code_at hr hW2 hfn hpc
  have kP := cell_below hW2 hP
  obtain ⟨m0, m1, m2, m3, fz⟩ := hF.cells
  rw [efn] at m0
  rw [epc] at m1
  rw [hi] at c0 c1
  simp only at c0 c1
  have hpl := hr.1
  have HR1 := Lib.hid r1
  have HR2 := Lib.hid r2
  have HT2 := Lib.hid (FTurn.of_below h b02)
  have HW2 := Lib.hid hW2
  have AP := Lib.hid (fun (x : Nat) (hx : w.heap.size ≤ x) => h.apart hx)
  have Y := Lib.hid (And.intro y1 y2)
  have HB := Lib.hid hb
  have HW := Lib.hid hW
  have HV2 := Lib.hid h.lo2
  have HPP := Lib.hid (And.intro hP hr)
  have efn' := Lib.hid efn
  subst hw2
  clear y1 y2 h hb hW hP hr hi r1 r2 hF hW2 fz m2 m3 b1 b2 b02 efn
  go_enter Tryz.func129, Tryz.ntmps129
  go_upto_region 4 with fail
  generalize hw2 : w1.alloc (.cells #[.int .i64 0, .int .i64 0, .int .i64 (fuel - 1), .int .i64 0, .slice none 0 0, .int .i64 0, .bool false, .int .i64 0, .bool false] 95) = w2 at *
  clear hw1 hw2
  have b3 := below_alloc (Below.refl w2.heap.size w2) (.cells #[.int .i64 0, .int .i64 0] 48)
  have kP3 := cell_below b3 kP
  have c23 := cell_below b3 c2
  have c03 := cell_below b3 c0
  have c13 := cell_below b3 c1
  have m03 := cell_below b3 m0
  have m13 := cell_below b3 m1
  clear b3
  go_region
  clear kP3 c23 c03 c13 m03 m13 kP c0 c1 c2 m0 m1
  have b3 : Below w2.heap.size w2 (w2.alloc (.cells #[.int .i64 16, .int .i64 a] 48)).drew := below_drw (below_alloc (Below.refl w2.heap.size w2) _)
  have rI : RowAt 48 w2.heap.size [.int .i64 16, .int .i64 a] (w2.alloc (.cells #[.int .i64 16, .int .i64 a] 48)).drew := RowAt.new _ _ w2
  generalize hw3 : (w2.alloc (.cells #[.int .i64 16, .int .i64 a] 48)).drew = w3 at *
  have T3 := HT2.out.after b3
  obtain ⟨_, m1, _, _, fz⟩ := T3.at_.cells
  rw [epc] at m1
  have hz1 := fz (off + 1)
  obtain ⟨w4, hw4⟩ : ∃ w4, w3.setCell ⟨g, off + 1, none⟩ (.int .i64 ((pc : Int) + 1)) = w4 := ⟨_, rfl⟩
  have hP4 := T3.at_.put_pc ((pc : Int) + 1)
  rw [hw4] at hP4
  have T4 := Lib.hid (T3.trans hP4)
  have row4 : ∀ {t b : Nat} {cs : List Value}, RowAt t b cs w2 → w.heap.size ≤ b → RowAt t b cs w4 := fun hr hx => hP4.row (hr.below b3) (AP.out _ hx).1 (AP.out _ hx).2.1 (AP.out _ hx).2.2
  have rI4 := hP4.row rI (AP.out _ (show w.heap.size ≤ w2.heap.size by have := Y.out; omega)).1 (AP.out _ (show w.heap.size ≤ w2.heap.size by have := Y.out; omega)).2.1 (AP.out _ (show w.heap.size ≤ w2.heap.size by have := Y.out; omega)).2.2
  have R1 := Lib.hid (row4 HR1.out (Nat.le_refl _))
  have R2 := Lib.hid (row4 HR2.out (by have := Y.out; omega))
  have RI := Lib.hid rI4
  have i0 := rI4.cell (k := 0) (by simp)
  have i1 := rI4.cell (k := 1) (by simp)
  simp only [List.getElem_cons_zero, List.getElem_cons_succ] at i0 i1
  have S4 := Lib.hid (show w2.heap.size < w4.heap.size from blk_lt rI4)
  clear T3 hP4 row4 rI4 rI fz HT2 HR1 HR2
  have H := Lib.hid (pop_at T4.out.at_ ht)
  go_wp2_with fail
  (with_reducible refine H.out.mono ?_)
  rintro e w5 ⟨u, rfl, q⟩
  have T5 := Lib.hid (T4.out.trans q)
  have NU := Lib.hid (show ob u ≠ some w.heap.size from fun e => by
    rcases q.new _ e with e | e
    · exact (AP.out _ (Nat.le_refl _)).2.2 e
    · have := S4.out; have := Y.out; omega)
  have NX := Lib.hid (show ob u ≠ some w1.heap.size from fun e => by
    rcases q.new _ e with e | e
    · exact (AP.out _ (show w.heap.size ≤ w1.heap.size by have := Y.out; omega)).2.2 e
    · have := S4.out; have := Y.out; omega)
  have R15 := Lib.hid (q.row R1.out (AP.out _ (Nat.le_refl _)).1 (AP.out _ (Nat.le_refl _)).2.1 (AP.out _ (Nat.le_refl _)).2.2)
  have R25 := Lib.hid (q.row R2.out (AP.out _ (show w.heap.size ≤ w1.heap.size by have := Y.out; omega)).1 (AP.out _ (show w.heap.size ≤ w1.heap.size by have := Y.out; omega)).2.1 (AP.out _ (show w.heap.size ≤ w1.heap.size by have := Y.out; omega)).2.2)
  have RI5 := Lib.hid (q.row RI.out (AP.out _ (show w.heap.size ≤ w2.heap.size by have := Y.out; omega)).1 (AP.out _ (show w.heap.size ≤ w2.heap.size by have := Y.out; omega)).2.1 (AP.out _ (show w.heap.size ≤ w2.heap.size by have := Y.out; omega)).2.2)
  clear q i0 i1
  have s1 := R25.out.put 0 (.int .i64 2)
  have s2 := s1.put 5 (.int .i64 (lastN f.stack))
  obtain ⟨x1, q1⟩ : ∃ c, w5.cell? ⟨w1.heap.size, 0, none⟩ = some c := ⟨_, R25.out.cell (k := 0) (by simp)⟩
  obtain ⟨x2, q2⟩ : ∃ c, (w5.setCell ⟨w1.heap.size, 0, none⟩ (.int .i64 2)).cell? ⟨w1.heap.size, 5, none⟩ = some c := ⟨_, s1.cell (k := 5) (by simp)⟩
  have z1 := R25.out.free 0
  have z2 := s1.free 5
  obtain ⟨w6, hw6⟩ : ∃ w6, (w5.setCell ⟨w1.heap.size, 0, none⟩ (.int .i64 2)).setCell ⟨w1.heap.size, 5, none⟩ (.int .i64 (lastN f.stack)) = w6 := ⟨_, rfl⟩
  have kc : Chg (fun b => b = w1.heap.size) w5 w6 := hw6 ▸ ((Chg.refl (fun b => b = w1.heap.size) w5).put (a := ⟨w1.heap.size, 0, none⟩) rfl _).put (a := ⟨w1.heap.size, 5, none⟩) rfl _
  rw [hw6] at s2
  have R26 := Lib.hid (show RowAt 95 w1.heap.size [.int .i64 2, .int .i64 0, .int .i64 (fuel - 1), .int .i64 0, .slice none 0 0, .int .i64 (lastN f.stack), .bool false, .int .i64 0, .bool false] w6 from s2)
  have R16 := Lib.hid (R15.out.chg kc (show ¬ w.heap.size = w1.heap.size by have := Y.out; omega))
  have T6 := Lib.hid (T5.out.past kc (show w.heap.size ≤ w1.heap.size by have := Y.out; omega) (AP.out _ (show w.heap.size ≤ w1.heap.size by have := Y.out; omega)).1 (AP.out _ (show w.heap.size ≤ w1.heap.size by have := Y.out; omega)).2.1 NX.out)
  clear s1 s2 kc
  obtain ⟨l0, l1, l2, l3, l4, l5, l6, l7, l8⟩ := row9 R26.out
  have pz := put9 R16.out rfl (.int .i64 2) (.int .i64 0) (.int .i64 (fuel - 1)) (.int .i64 0) (.slice none 0 0) (.int .i64 (lastN f.stack)) (.bool false) (.int .i64 0) (.bool false)
  obtain ⟨hE, hRz, hKz⟩ := pz
  have EE := Lib.hid hE
  have HR := Lib.hid (one_end (x := ⟨2, 0, fuel - 1, 0, [], lastN f.stack, false, 0, false⟩) (jumps := false) (va := .slice none 0 0) T6.out (innI_nil _ _) (fun _ e => by cases e) hKz (Nat.le_refl _) (AP.out _ (Nat.le_refl _)).1 (AP.out _ (Nat.le_refl _)).2.1 NU.out (fun e => by cases e))
  clear hE hRz hKz
  obtain ⟨q0, q1, q2, q3, q4, q5, q6, q7, q8⟩ := row9 R16.out
  have z_ := fun k => (R16.out).free k
  have z0 := z_ 0
  have z1 := z_ 1
  have z2 := z_ 2
  have z3 := z_ 3
  have z4 := z_ 4
  have z5 := z_ 5
  have z6 := z_ 6
  have z7 := z_ 7
  have z8 := z_ 8
  clear z_
  go_wp2_with fail
  exact bodyPost_ret (v := .tuple #[.agg (excC (⟨2, 0, fuel - 1, 0, [], lastN f.stack, false, 0, false⟩) (.slice none 0 0)).toArray, .bool false]) (by simp [results, Tryz.results129, go_sem, excC, EE.out.1, EE.out.2.1, EE.out.2.2.1, EE.out.2.2.2.1, EE.out.2.2.2.2.1, EE.out.2.2.2.2.2.1, EE.out.2.2.2.2.2.2.1, EE.out.2.2.2.2.2.2.2.1, EE.out.2.2.2.2.2.2.2.2]) rfl HR.out

set_option maxRecDepth 100000 in
set_option maxHeartbeats 8000000 in
theorem lone14d {w W0 : World} {base g off cp : Nat} {P : Addr} {p : List Fn} {Ap : Option Addr} {f : Frm} {v1 v2 : Value} (h : FAt w base g off f v1 v2) (hb : base ≤ w.heap.size) (hW : Below W0.heap.size W0 w) (hP : W0.cell? P = some (.slice Ap p.length cp)) (hr : ReadsF W0 Ap p)
    {fn pc : Nat} (efn : f.fn = fn) (epc : f.pc = pc) (hfn : fn < p.length) (hpc : pc < p[fn].code.length) {a : Int} (hi : p[fn].code[pc] = ⟨14, a⟩) (fuel d : Int) (hf : 0 < fuel) (hf2 : fuel ≤ 100000) (h64 : p[fn].code.length ≤ 1000) (hd : 12 ≤ d) :
    Calls Tryz.prog 129 #[.pointer (some P), .pointer (some ⟨g, off, none⟩), .int .i64 fuel, .int .i64 d] w (OneE (⟨f.fn, (pc : Int) + 1, f.locals, f.stack⟩) (⟨4, 0, fuel - 1, 0, [], 0, false, 0, false⟩) false base g off v1 v2 w) := by
  have d0 : (fuel == 0) = false := beq_eq_false_iff_ne.2 (by omega)
  have hfw : wrap64 (fuel - 1) = fuel - 1 := by unfold wrap64; omega
  have hpw : wrap64 ((pc : Int) + 1) = pc + 1 := by unfold wrap64; omega
  obtain ⟨w1, hw1⟩ : ∃ w1, w.alloc (.cells #[.int .i64 0, .int .i64 0, .int .i64 0, .int .i64 0, .slice none 0 0, .int .i64 0, .bool false, .int .i64 0, .bool false] 95) = w1 := ⟨_, rfl⟩
  obtain ⟨w2, hw2⟩ : ∃ w2, w1.alloc (.cells #[.int .i64 0, .int .i64 0, .int .i64 (fuel - 1), .int .i64 0, .slice none 0 0, .int .i64 0, .bool false, .int .i64 0, .bool false] 95) = w2 := ⟨_, rfl⟩
  have b1 : Below w.heap.size w w1 := hw1 ▸ below_alloc (Below.refl _ _) _
  have b2 : Below w1.heap.size w1 w2 := hw2 ▸ below_alloc (Below.refl _ _) _
  have b02 := below_trans b1 b2
  have y1 : w1.heap.size = w.heap.size + 1 := by rw [← hw1]; simp
  have y2 : w2.heap.size = w.heap.size + 2 := by rw [← hw2]; simp [y1]
  have r1 : RowAt 95 w.heap.size [.int .i64 0, .int .i64 0, .int .i64 0, .int .i64 0, .slice none 0 0, .int .i64 0, .bool false, .int .i64 0, .bool false] w2 := (hw1 ▸ RowAt.new _ _ w : RowAt 95 w.heap.size [.int .i64 0, .int .i64 0, .int .i64 0, .int .i64 0, .slice none 0 0, .int .i64 0, .bool false, .int .i64 0, .bool false] w1).below b2
  have r2 : RowAt 95 w1.heap.size [.int .i64 0, .int .i64 0, .int .i64 (fuel - 1), .int .i64 0, .slice none 0 0, .int .i64 0, .bool false, .int .i64 0, .bool false] w2 := hw2 ▸ RowAt.new _ _ w1
  have hF := h.below b02
  have hW2 := below_trans hW b02
  obtain ⟨ad, Ac, cc, rfl, c2, c0, c1, _⟩ := code_at hr hW2 hfn hpc
  have kP := cell_below hW2 hP
  obtain ⟨m0, m1, m2, m3, fz⟩ := hF.cells
  rw [efn] at m0
  rw [epc] at m1
  rw [hi] at c0 c1
  simp only at c0 c1
  have hpl := hr.1
  have HR1 := Lib.hid r1
  have HR2 := Lib.hid r2
  have HT2 := Lib.hid (FTurn.of_below h b02)
  have HW2 := Lib.hid hW2
  have AP := Lib.hid (fun (x : Nat) (hx : w.heap.size ≤ x) => h.apart hx)
  have Y := Lib.hid (And.intro y1 y2)
  have HB := Lib.hid hb
  have HW := Lib.hid hW
  have HV2 := Lib.hid h.lo2
  have HPP := Lib.hid (And.intro hP hr)
  have efn' := Lib.hid efn
  subst hw2
  clear y1 y2 h hb hW hP hr hi r1 r2 hF hW2 fz m2 m3 b1 b2 b02 efn
  go_enter Tryz.func129, Tryz.ntmps129
  go_upto_region 4 with fail
  generalize hw2 : w1.alloc (.cells #[.int .i64 0, .int .i64 0, .int .i64 (fuel - 1), .int .i64 0, .slice none 0 0, .int .i64 0, .bool false, .int .i64 0, .bool false] 95) = w2 at *
  clear hw1 hw2
  have b3 := below_alloc (Below.refl w2.heap.size w2) (.cells #[.int .i64 0, .int .i64 0] 48)
  have kP3 := cell_below b3 kP
  have c23 := cell_below b3 c2
  have c03 := cell_below b3 c0
  have c13 := cell_below b3 c1
  have m03 := cell_below b3 m0
  have m13 := cell_below b3 m1
  clear b3
  go_region
  clear kP3 c23 c03 c13 m03 m13 kP c0 c1 c2 m0 m1
  have b3 : Below w2.heap.size w2 (w2.alloc (.cells #[.int .i64 14, .int .i64 a] 48)).drew := below_drw (below_alloc (Below.refl w2.heap.size w2) _)
  have rI : RowAt 48 w2.heap.size [.int .i64 14, .int .i64 a] (w2.alloc (.cells #[.int .i64 14, .int .i64 a] 48)).drew := RowAt.new _ _ w2
  generalize hw3 : (w2.alloc (.cells #[.int .i64 14, .int .i64 a] 48)).drew = w3 at *
  have T3 := HT2.out.after b3
  obtain ⟨_, m1, _, _, fz⟩ := T3.at_.cells
  rw [epc] at m1
  have hz1 := fz (off + 1)
  obtain ⟨w4, hw4⟩ : ∃ w4, w3.setCell ⟨g, off + 1, none⟩ (.int .i64 ((pc : Int) + 1)) = w4 := ⟨_, rfl⟩
  have hP4 := T3.at_.put_pc ((pc : Int) + 1)
  rw [hw4] at hP4
  have T4 := Lib.hid (T3.trans hP4)
  have row4 : ∀ {t b : Nat} {cs : List Value}, RowAt t b cs w2 → w.heap.size ≤ b → RowAt t b cs w4 := fun hr hx => hP4.row (hr.below b3) (AP.out _ hx).1 (AP.out _ hx).2.1 (AP.out _ hx).2.2
  have rI4 := hP4.row rI (AP.out _ (show w.heap.size ≤ w2.heap.size by have := Y.out; omega)).1 (AP.out _ (show w.heap.size ≤ w2.heap.size by have := Y.out; omega)).2.1 (AP.out _ (show w.heap.size ≤ w2.heap.size by have := Y.out; omega)).2.2
  have R1 := Lib.hid (row4 HR1.out (Nat.le_refl _))
  have R2 := Lib.hid (row4 HR2.out (by have := Y.out; omega))
  have RI := Lib.hid rI4
  have i0 := rI4.cell (k := 0) (by simp)
  have i1 := rI4.cell (k := 1) (by simp)
  simp only [List.getElem_cons_zero, List.getElem_cons_succ] at i0 i1
  have S4 := Lib.hid (show w2.heap.size < w4.heap.size from blk_lt rI4)
  clear T3 hP4 row4 rI4 rI fz HT2 HR1 HR2
  have H := Lib.hid (lcallD_any (g := g) (off := off) (P := P) a d R2.out (by simp) hd)
  clear hd
  go_wp2_with fail
  (with_reducible refine H.out.mono ?_)
  rintro e w5 ⟨rfl, hw5⟩
  have s1 := R2.out.put 0 (.int .i64 4)
  have kc : Chg (fun b => b = w1.heap.size) w4 w5 := hw5 ▸ ((Chg.refl (fun b => b = w1.heap.size) w4).put (a := ⟨w1.heap.size, 0, none⟩) rfl _)
  rw [← hw5] at s1
  have R25 := Lib.hid (show RowAt 95 w1.heap.size [.int .i64 4, .int .i64 0, .int .i64 (fuel - 1), .int .i64 0, .slice none 0 0, .int .i64 0, .bool false, .int .i64 0, .bool false] w5 from s1)
  have R15 := Lib.hid (R1.out.chg kc (show ¬ w.heap.size = w1.heap.size by have := Y.out; omega))
  have T5 := Lib.hid (T4.out.past kc (show w.heap.size ≤ w1.heap.size by have := Y.out; omega) (AP.out _ (show w.heap.size ≤ w1.heap.size by have := Y.out; omega)).1 (AP.out _ (show w.heap.size ≤ w1.heap.size by have := Y.out; omega)).2.1 (AP.out _ (show w.heap.size ≤ w1.heap.size by have := Y.out; omega)).2.2)
  clear s1 kc hw5
  obtain ⟨l0, l1, l2, l3, l4, l5, l6, l7, l8⟩ := row9 R25.out
  have pz := put9 R15.out rfl (.int .i64 4) (.int .i64 0) (.int .i64 (fuel - 1)) (.int .i64 0) (.slice none 0 0) (.int .i64 0) (.bool false) (.int .i64 0) (.bool false)
  obtain ⟨hE, hRz, hKz⟩ := pz
  have EE := Lib.hid hE
  have HR := Lib.hid (one_end (x := ⟨4, 0, fuel - 1, 0, [], 0, false, 0, false⟩) (jumps := false) (va := .slice none 0 0) T5.out (innI_nil _ _) (fun _ e => by cases e) hKz (Nat.le_refl _) (AP.out _ (Nat.le_refl _)).1 (AP.out _ (Nat.le_refl _)).2.1 (AP.out _ (Nat.le_refl _)).2.2 (fun e => by cases e))
  clear hE hRz hKz
  obtain ⟨q0, q1, q2, q3, q4, q5, q6, q7, q8⟩ := row9 R15.out
  have z_ := fun k => (R15.out).free k
  have z0 := z_ 0
  have z1 := z_ 1
  have z2 := z_ 2
  have z3 := z_ 3
  have z4 := z_ 4
  have z5 := z_ 5
  have z6 := z_ 6
  have z7 := z_ 7
  have z8 := z_ 8
  clear z_
  go_wp2_with fail
  exact bodyPost_ret (v := .tuple #[.agg (excC (⟨4, 0, fuel - 1, 0, [], 0, false, 0, false⟩) (.slice none 0 0)).toArray, .bool false]) (by simp [results, Tryz.results129, go_sem, excC, EE.out.1, EE.out.2.1, EE.out.2.2.1, EE.out.2.2.2.1, EE.out.2.2.2.2.1, EE.out.2.2.2.2.2.1, EE.out.2.2.2.2.2.2.1, EE.out.2.2.2.2.2.2.2.1, EE.out.2.2.2.2.2.2.2.2]) rfl HR.out

set_option maxRecDepth 100000 in
set_option maxHeartbeats 8000000 in
theorem lone14 {w W0 : World} {base g off cp : Nat} {P : Addr} {p : List Fn} {Ap : Option Addr} {f : Frm} {v1 v2 : Value} (h : FAt w base g off f v1 v2) (hb : base ≤ w.heap.size) (hW : Below W0.heap.size W0 w) (hP : W0.cell? P = some (.slice Ap p.length cp)) (hr : ReadsF W0 Ap p)
    {fn pc : Nat} (efn : f.fn = fn) (epc : f.pc = pc) (hfn : fn < p.length) (hpc : pc < p[fn].code.length) {n : Nat} (hi : p[fn].code[pc] = ⟨14, n⟩) (fuel d : Int) (hf : 0 < fuel) (hf2 : fuel ≤ 100000) (h64 : p[fn].code.length ≤ 1000) (hd : d < 12) (hbs : W0.heap.size ≤ base) {M : Nat} (hn : n < p.length) (hM : p[n].args = M) (hle : M ≤ f.stack.length) (h8 : f.stack.length ≤ 1000) :
    Calls Tryz.prog 129 #[.pointer (some P), .pointer (some ⟨g, off, none⟩), .int .i64 fuel, .int .i64 d] w (OneE (⟨f.fn, (pc : Int) + 1, f.locals, f.stack.take (f.stack.length - M)⟩) (⟨1, 0, fuel - 1, n, f.stack.drop (f.stack.length - M), 0, false, 0, false⟩) false base g off v1 v2 w) := by
  have d0 : (fuel == 0) = false := beq_eq_false_iff_ne.2 (by omega)
  have hfw : wrap64 (fuel - 1) = fuel - 1 := by unfold wrap64; omega
  have hpw : wrap64 ((pc : Int) + 1) = pc + 1 := by unfold wrap64; omega
  obtain ⟨w1, hw1⟩ : ∃ w1, w.alloc (.cells #[.int .i64 0, .int .i64 0, .int .i64 0, .int .i64 0, .slice none 0 0, .int .i64 0, .bool false, .int .i64 0, .bool false] 95) = w1 := ⟨_, rfl⟩
  obtain ⟨w2, hw2⟩ : ∃ w2, w1.alloc (.cells #[.int .i64 0, .int .i64 0, .int .i64 (fuel - 1), .int .i64 0, .slice none 0 0, .int .i64 0, .bool false, .int .i64 0, .bool false] 95) = w2 := ⟨_, rfl⟩
  have b1 : Below w.heap.size w w1 := hw1 ▸ below_alloc (Below.refl _ _) _
  have b2 : Below w1.heap.size w1 w2 := hw2 ▸ below_alloc (Below.refl _ _) _
  have b02 := below_trans b1 b2
  have y1 : w1.heap.size = w.heap.size + 1 := by rw [← hw1]; simp
  have y2 : w2.heap.size = w.heap.size + 2 := by rw [← hw2]; simp [y1]
  have r1 : RowAt 95 w.heap.size [.int .i64 0, .int .i64 0, .int .i64 0, .int .i64 0, .slice none 0 0, .int .i64 0, .bool false, .int .i64 0, .bool false] w2 := (hw1 ▸ RowAt.new _ _ w : RowAt 95 w.heap.size [.int .i64 0, .int .i64 0, .int .i64 0, .int .i64 0, .slice none 0 0, .int .i64 0, .bool false, .int .i64 0, .bool false] w1).below b2
  have r2 : RowAt 95 w1.heap.size [.int .i64 0, .int .i64 0, .int .i64 (fuel - 1), .int .i64 0, .slice none 0 0, .int .i64 0, .bool false, .int .i64 0, .bool false] w2 := hw2 ▸ RowAt.new _ _ w1
  have hF := h.below b02
  have hW2 := below_trans hW b02
  obtain ⟨ad, Ac, cc, rfl, c2, c0, c1, _⟩ := code_at hr hW2 hfn hpc
  have kP := cell_below hW2 hP
  obtain ⟨m0, m1, m2, m3, fz⟩ := hF.cells
  rw [efn] at m0
  rw [epc] at m1
  rw [hi] at c0 c1
  simp only at c0 c1
  have hpl := hr.1
  have HR1 := Lib.hid r1
  have HR2 := Lib.hid r2
  have HT2 := Lib.hid (FTurn.of_below h b02)
  have HW2 := Lib.hid hW2
  have AP := Lib.hid (fun (x : Nat) (hx : w.heap.size ≤ x) => h.apart hx)
  have Y := Lib.hid (And.intro y1 y2)
  have HB := Lib.hid hb
  have HW := Lib.hid hW
  have HV2 := Lib.hid h.lo2
  have HPP := Lib.hid (And.intro hP hr)
  have efn' := Lib.hid efn
  subst hw2
  clear y1 y2 h hb hW hP hr hi r1 r2 hF hW2 fz m2 m3 b1 b2 b02 efn
  go_enter Tryz.func129, Tryz.ntmps129
  go_upto_region 4 with fail
  generalize hw2 : w1.alloc (.cells #[.int .i64 0, .int .i64 0, .int .i64 (fuel - 1), .int .i64 0, .slice none 0 0, .int .i64 0, .bool false, .int .i64 0, .bool false] 95) = w2 at *
  clear hw1 hw2
  have b3 := below_alloc (Below.refl w2.heap.size w2) (.cells #[.int .i64 0, .int .i64 0] 48)
  have kP3 := cell_below b3 kP
  have c23 := cell_below b3 c2
  have c03 := cell_below b3 c0
  have c13 := cell_below b3 c1
  have m03 := cell_below b3 m0
  have m13 := cell_below b3 m1
  clear b3
  go_region
  clear kP3 c23 c03 c13 m03 m13 kP c0 c1 c2 m0 m1
  have b3 : Below w2.heap.size w2 (w2.alloc (.cells #[.int .i64 14, .int .i64 n] 48)).drew := below_drw (below_alloc (Below.refl w2.heap.size w2) _)
  have rI : RowAt 48 w2.heap.size [.int .i64 14, .int .i64 n] (w2.alloc (.cells #[.int .i64 14, .int .i64 n] 48)).drew := RowAt.new _ _ w2
  generalize hw3 : (w2.alloc (.cells #[.int .i64 14, .int .i64 n] 48)).drew = w3 at *
  have T3 := HT2.out.after b3
  obtain ⟨_, m1, _, _, fz⟩ := T3.at_.cells
  rw [epc] at m1
  have hz1 := fz (off + 1)
  obtain ⟨w4, hw4⟩ : ∃ w4, w3.setCell ⟨g, off + 1, none⟩ (.int .i64 ((pc : Int) + 1)) = w4 := ⟨_, rfl⟩
  have hP4 := T3.at_.put_pc ((pc : Int) + 1)
  rw [hw4] at hP4
  have T4 := Lib.hid (T3.trans hP4)
  have row4 : ∀ {t b : Nat} {cs : List Value}, RowAt t b cs w2 → w.heap.size ≤ b → RowAt t b cs w4 := fun hr hx => hP4.row (hr.below b3) (AP.out _ hx).1 (AP.out _ hx).2.1 (AP.out _ hx).2.2
  have rI4 := hP4.row rI (AP.out _ (show w.heap.size ≤ w2.heap.size by have := Y.out; omega)).1 (AP.out _ (show w.heap.size ≤ w2.heap.size by have := Y.out; omega)).2.1 (AP.out _ (show w.heap.size ≤ w2.heap.size by have := Y.out; omega)).2.2
  have R1 := Lib.hid (row4 HR1.out (Nat.le_refl _))
  have R2 := Lib.hid (row4 HR2.out (by have := Y.out; omega))
  have RI := Lib.hid rI4
  have i0 := rI4.cell (k := 0) (by simp)
  have i1 := rI4.cell (k := 1) (by simp)
  simp only [List.getElem_cons_zero, List.getElem_cons_succ] at i0 i1
  have S4 := Lib.hid (show w2.heap.size < w4.heap.size from blk_lt rI4)
  clear T3 hP4 row4 rI4 rI fz HT2 HR1 HR2
  have HBW := Lib.hid (Chg.below HW.out T4.out.chg (fun k hk => by
    have h1 := T4.out.at_.lo
    rcases hk with e | e | e
    · omega
    · have := (T4.out.at_.lo1 k e).1; omega
    · have := (HV2.out k e).1; omega))
  have H := Lib.hid (lcall_any (n := n) T4.out.at_ HBW.out HPP.out.1 HPP.out.2 R2.out (by simp) (AP.out _ (show w.heap.size ≤ w1.heap.size by have := Y.out; omega)).1 (AP.out _ (show w.heap.size ≤ w1.heap.size by have := Y.out; omega)).2.1 (AP.out _ (show w.heap.size ≤ w1.heap.size by have := Y.out; omega)).2.2 hn hM hle h8 d hd)
  clear hd hle hn hM h8 hbs
  go_wp2_with fail
  (with_reducible refine H.out.mono ?_)
  rintro e w5 ⟨u, va, rfl, hat, hc, hbk, hnw, hrow, hva, hdis⟩
  obtain ⟨vA, vc, eva, _⟩ := CRow.shape hva
  obtain ⟨vn, eva'⟩ : ∃ vn, va = .slice vA vn vc := ⟨_, eva⟩
  clear eva
  subst eva'
  have T5 := Lib.hid (T4.out.trans_x hat hc hbk hnw (show w.heap.size ≤ w1.heap.size by have := Y.out; omega))
  have NU := Lib.hid (show ob u ≠ some w.heap.size from fun e => by
    rcases hnw _ e with e | e
    · exact (AP.out _ (Nat.le_refl _)).2.2 e
    · have := S4.out; have := Y.out; omega)
  have R15 := Lib.hid (R1.out.chg hc (fun e => by
    rcases e with (e | e | e) | e
    · exact (AP.out _ (Nat.le_refl _)).1 e
    · exact (AP.out _ (Nat.le_refl _)).2.1 e
    · exact (AP.out _ (Nat.le_refl _)).2.2 e
    · have := Y.out; omega))
  have R25 := Lib.hid (show RowAt 95 w1.heap.size [.int .i64 1, .int .i64 0, .int .i64 (fuel - 1), .int .i64 n, .slice vA vn vc, .int .i64 0, .bool false, .int .i64 0, .bool false] w5 from hrow)
  have VA := Lib.hid (show InnAt w5 w.heap.size (.slice vA vn vc) (innI (f.stack.drop (f.stack.length - M))) from CRow.mono hva (by have := S4.out; have := Y.out; omega))
  have NA := Lib.hid (show ob (.slice vA vn vc) ≠ some w.heap.size from fun e => by have := (CRow.in_ hva _ e).1; have := S4.out; have := Y.out; omega)
  have DIS := Lib.hid hdis
  clear hat hc hbk hnw hrow hva hdis
  obtain ⟨l0, l1, l2, l3, l4, l5, l6, l7, l8⟩ := row9 R25.out
  have pz := put9 R15.out rfl (.int .i64 1) (.int .i64 0) (.int .i64 (fuel - 1)) (.int .i64 n) (.slice vA vn vc) (.int .i64 0) (.bool false) (.int .i64 0) (.bool false)
  obtain ⟨hE, hRz, hKz⟩ := pz
  have EE := Lib.hid hE
  have HR := Lib.hid (one_end (x := ⟨1, 0, fuel - 1, n, f.stack.drop (f.stack.length - M), 0, false, 0, false⟩) (jumps := false) (va := (.slice vA vn vc)) T5.out VA.out DIS.out hKz (Nat.le_refl _) (AP.out _ (Nat.le_refl _)).1 (AP.out _ (Nat.le_refl _)).2.1 NU.out NA.out)
  clear hE hRz hKz
  obtain ⟨q0, q1, q2, q3, q4, q5, q6, q7, q8⟩ := row9 R15.out
  have z_ := fun k => (R15.out).free k
  have z0 := z_ 0
  have z1 := z_ 1
  have z2 := z_ 2
  have z3 := z_ 3
  have z4 := z_ 4
  have z5 := z_ 5
  have z6 := z_ 6
  have z7 := z_ 7
  have z8 := z_ 8
  clear z_
  go_wp2_with fail
  exact bodyPost_ret (v := .tuple #[.agg (excC (⟨1, 0, fuel - 1, n, f.stack.drop (f.stack.length - M), 0, false, 0, false⟩) ((.slice vA vn vc))).toArray, .bool false]) (by simp [results, Tryz.results129, go_sem, excC, EE.out.1, EE.out.2.1, EE.out.2.2.1, EE.out.2.2.2.1, EE.out.2.2.2.2.1, EE.out.2.2.2.2.2.1, EE.out.2.2.2.2.2.2.1, EE.out.2.2.2.2.2.2.2.1, EE.out.2.2.2.2.2.2.2.2]) rfl HR.out

set_option maxRecDepth 100000 in
set_option maxHeartbeats 8000000 in
theorem lone0 {w W0 : World} {base g off cp : Nat} {P : Addr} {p : List Fn} {Ap : Option Addr} {f : Frm} {v1 v2 : Value} (h : FAt w base g off f v1 v2) (hb : base ≤ w.heap.size) (hW : Below W0.heap.size W0 w) (hP : W0.cell? P = some (.slice Ap p.length cp)) (hr : ReadsF W0 Ap p)
    {fn pc : Nat} (efn : f.fn = fn) (epc : f.pc = pc) (hfn : fn < p.length) (hpc : pc < p[fn].code.length) {a : Int} (hi : p[fn].code[pc] = ⟨0, a⟩) (fuel d : Int) (hf : 0 < fuel) (hf2 : fuel ≤ 100000) (h64 : p[fn].code.length ≤ 1000) (hs : f.stack.length ≤ 1000) :
    Calls Tryz.prog 129 #[.pointer (some P), .pointer (some ⟨g, off, none⟩), .int .i64 fuel, .int .i64 d] w (OneE ((simF ⟨f.fn, (pc : Int) + 1, f.locals, f.stack⟩ ⟨0, a⟩).1) (⟨if (simF ⟨f.fn, (pc : Int) + 1, f.locals, f.stack⟩ ⟨0, a⟩).2 = true then 3 else 0, 0, fuel - 1, 0, [], 0, false, 0, false⟩) false base g off v1 v2 w) := by
  obtain ⟨K3, hK3⟩ : ∃ K3, (if (simF ⟨f.fn, (pc : Int) + 1, f.locals, f.stack⟩ ⟨0, a⟩).2 = true then (3 : Int) else 0) = K3 := ⟨_, rfl⟩
  rw [hK3]
  have HK3 := Lib.hid hK3
  clear hK3
  have d0 : (fuel == 0) = false := beq_eq_false_iff_ne.2 (by omega)
  have hfw : wrap64 (fuel - 1) = fuel - 1 := by unfold wrap64; omega
  have hpw : wrap64 ((pc : Int) + 1) = pc + 1 := by unfold wrap64; omega
  obtain ⟨w1, hw1⟩ : ∃ w1, w.alloc (.cells #[.int .i64 0, .int .i64 0, .int .i64 0, .int .i64 0, .slice none 0 0, .int .i64 0, .bool false, .int .i64 0, .bool false] 95) = w1 := ⟨_, rfl⟩
  obtain ⟨w2, hw2⟩ : ∃ w2, w1.alloc (.cells #[.int .i64 0, .int .i64 0, .int .i64 (fuel - 1), .int .i64 0, .slice none 0 0, .int .i64 0, .bool false, .int .i64 0, .bool false] 95) = w2 := ⟨_, rfl⟩
  have b1 : Below w.heap.size w w1 := hw1 ▸ below_alloc (Below.refl _ _) _
  have b2 : Below w1.heap.size w1 w2 := hw2 ▸ below_alloc (Below.refl _ _) _
  have b02 := below_trans b1 b2
  have y1 : w1.heap.size = w.heap.size + 1 := by rw [← hw1]; simp
  have y2 : w2.heap.size = w.heap.size + 2 := by rw [← hw2]; simp [y1]
  have r1 : RowAt 95 w.heap.size [.int .i64 0, .int .i64 0, .int .i64 0, .int .i64 0, .slice none 0 0, .int .i64 0, .bool false, .int .i64 0, .bool false] w2 := (hw1 ▸ RowAt.new _ _ w : RowAt 95 w.heap.size [.int .i64 0, .int .i64 0, .int .i64 0, .int .i64 0, .slice none 0 0, .int .i64 0, .bool false, .int .i64 0, .bool false] w1).below b2
  have r2 : RowAt 95 w1.heap.size [.int .i64 0, .int .i64 0, .int .i64 (fuel - 1), .int .i64 0, .slice none 0 0, .int .i64 0, .bool false, .int .i64 0, .bool false] w2 := hw2 ▸ RowAt.new _ _ w1
  have hF := h.below b02
  have hW2 := below_trans hW b02
  obtain ⟨ad, Ac, cc, rfl, c2, c0, c1, _⟩ := code_at hr hW2 hfn hpc
  have kP := cell_below hW2 hP
  obtain ⟨m0, m1, m2, m3, fz⟩ := hF.cells
  rw [efn] at m0
  rw [epc] at m1
  rw [hi] at c0 c1
  simp only at c0 c1
  have hpl := hr.1
  have HR1 := Lib.hid r1
  have HR2 := Lib.hid r2
  have HT2 := Lib.hid (FTurn.of_below h b02)
  have HW2 := Lib.hid hW2
  have AP := Lib.hid (fun (x : Nat) (hx : w.heap.size ≤ x) => h.apart hx)
  have Y := Lib.hid (And.intro y1 y2)
  have HB := Lib.hid hb
  have HW := Lib.hid hW
  have HV2 := Lib.hid h.lo2
  have HPP := Lib.hid (And.intro hP hr)
  have efn' := Lib.hid efn
  subst hw2
  clear y1 y2 h hb hW hP hr hi r1 r2 hF hW2 fz m2 m3 b1 b2 b02 efn
  go_enter Tryz.func129, Tryz.ntmps129
  go_upto_region 4 with fail
  generalize hw2 : w1.alloc (.cells #[.int .i64 0, .int .i64 0, .int .i64 (fuel - 1), .int .i64 0, .slice none 0 0, .int .i64 0, .bool false, .int .i64 0, .bool false] 95) = w2 at *
  clear hw1 hw2
  have b3 := below_alloc (Below.refl w2.heap.size w2) (.cells #[.int .i64 0, .int .i64 0] 48)
  have kP3 := cell_below b3 kP
  have c23 := cell_below b3 c2
  have c03 := cell_below b3 c0
  have c13 := cell_below b3 c1
  have m03 := cell_below b3 m0
  have m13 := cell_below b3 m1
  clear b3
  go_region
  clear kP3 c23 c03 c13 m03 m13 kP c0 c1 c2 m0 m1
  have b3 : Below w2.heap.size w2 (w2.alloc (.cells #[.int .i64 0, .int .i64 a] 48)).drew := below_drw (below_alloc (Below.refl w2.heap.size w2) _)
  have rI : RowAt 48 w2.heap.size [.int .i64 0, .int .i64 a] (w2.alloc (.cells #[.int .i64 0, .int .i64 a] 48)).drew := RowAt.new _ _ w2
  generalize hw3 : (w2.alloc (.cells #[.int .i64 0, .int .i64 a] 48)).drew = w3 at *
  have T3 := HT2.out.after b3
  obtain ⟨_, m1, _, _, fz⟩ := T3.at_.cells
  rw [epc] at m1
  have hz1 := fz (off + 1)
  obtain ⟨w4, hw4⟩ : ∃ w4, w3.setCell ⟨g, off + 1, none⟩ (.int .i64 ((pc : Int) + 1)) = w4 := ⟨_, rfl⟩
  have hP4 := T3.at_.put_pc ((pc : Int) + 1)
  rw [hw4] at hP4
  have T4 := Lib.hid (T3.trans hP4)
  have row4 : ∀ {t b : Nat} {cs : List Value}, RowAt t b cs w2 → w.heap.size ≤ b → RowAt t b cs w4 := fun hr hx => hP4.row (hr.below b3) (AP.out _ hx).1 (AP.out _ hx).2.1 (AP.out _ hx).2.2
  have rI4 := hP4.row rI (AP.out _ (show w.heap.size ≤ w2.heap.size by have := Y.out; omega)).1 (AP.out _ (show w.heap.size ≤ w2.heap.size by have := Y.out; omega)).2.1 (AP.out _ (show w.heap.size ≤ w2.heap.size by have := Y.out; omega)).2.2
  have R1 := Lib.hid (row4 HR1.out (Nat.le_refl _))
  have R2 := Lib.hid (row4 HR2.out (by have := Y.out; omega))
  have RI := Lib.hid rI4
  have i0 := rI4.cell (k := 0) (by simp)
  have i1 := rI4.cell (k := 1) (by simp)
  simp only [List.getElem_cons_zero, List.getElem_cons_succ] at i0 i1
  have S4 := Lib.hid (show w2.heap.size < w4.heap.size from blk_lt rI4)
  clear T3 hP4 row4 rI4 rI fz HT2 HR1 HR2
  have H := Lib.hid (lsimple0 T4.out.at_ (Nat.le_trans HB.out T4.out.chg.size) R2.out (AP.out _ (show w.heap.size ≤ w1.heap.size by have := Y.out; omega)).1 (AP.out _ (show w.heap.size ≤ w1.heap.size by have := Y.out; omega)).2.1 (AP.out _ (show w.heap.size ≤ w1.heap.size by have := Y.out; omega)).2.2 hs a)
  go_wp2_with fail
  (with_reducible refine H.out.mono ?_)
  rintro e w5 ⟨u, rfl, hat, hc, hbk, hnw, hrow⟩
  have T5 := Lib.hid (T4.out.trans_x hat hc hbk hnw (show w.heap.size ≤ w1.heap.size by have := Y.out; omega))
  have NU := Lib.hid (show ob u ≠ some w.heap.size from fun e => by
    rcases hnw _ e with e | e
    · exact (AP.out _ (Nat.le_refl _)).2.2 e
    · have := S4.out; have := Y.out; omega)
  have R15 := Lib.hid (R1.out.chg hc (fun e => by
    rcases e with (e | e | e) | e
    · exact (AP.out _ (Nat.le_refl _)).1 e
    · exact (AP.out _ (Nat.le_refl _)).2.1 e
    · exact (AP.out _ (Nat.le_refl _)).2.2 e
    · have := Y.out; omega))
  have R25 := Lib.hid (show RowAt 95 w1.heap.size [.int .i64 K3, .int .i64 0, .int .i64 (fuel - 1), .int .i64 0, .slice none 0 0, .int .i64 0, .bool false, .int .i64 0, .bool false] w5 from by
    rw [← HK3.out]
    cases hb : (simF ⟨f.fn, (pc : Int) + 1, f.locals, f.stack⟩ ⟨0, a⟩).2 with
    | true => rw [hb, if_pos rfl] at hrow; exact hrow
    | false => rw [hb, if_neg (by simp)] at hrow; exact hrow)
  clear hat hc hbk hnw hrow i0 i1
  obtain ⟨l0, l1, l2, l3, l4, l5, l6, l7, l8⟩ := row9 R25.out
  have pz := put9 R15.out rfl (.int .i64 K3) (.int .i64 0) (.int .i64 (fuel - 1)) (.int .i64 0) (.slice none 0 0) (.int .i64 0) (.bool false) (.int .i64 0) (.bool false)
  obtain ⟨hE, hRz, hKz⟩ := pz
  have EE := Lib.hid hE
  have HR := Lib.hid (one_end (x := ⟨K3, 0, fuel - 1, 0, [], 0, false, 0, false⟩) (jumps := false) (va := .slice none 0 0) T5.out (innI_nil _ _) (fun _ e => by cases e) hKz (Nat.le_refl _) (AP.out _ (Nat.le_refl _)).1 (AP.out _ (Nat.le_refl _)).2.1 NU.out (fun e => by cases e))
  clear hE hRz hKz
  obtain ⟨q0, q1, q2, q3, q4, q5, q6, q7, q8⟩ := row9 R15.out
  have z_ := fun k => (R15.out).free k
  have z0 := z_ 0
  have z1 := z_ 1
  have z2 := z_ 2
  have z3 := z_ 3
  have z4 := z_ 4
  have z5 := z_ 5
  have z6 := z_ 6
  have z7 := z_ 7
  have z8 := z_ 8
  clear z_
  go_wp2_with fail
  exact bodyPost_ret (v := .tuple #[.agg (excC (⟨K3, 0, fuel - 1, 0, [], 0, false, 0, false⟩) (.slice none 0 0)).toArray, .bool false]) (by simp [results, Tryz.results129, go_sem, excC, EE.out.1, EE.out.2.1, EE.out.2.2.1, EE.out.2.2.2.1, EE.out.2.2.2.2.1, EE.out.2.2.2.2.2.1, EE.out.2.2.2.2.2.2.1, EE.out.2.2.2.2.2.2.2.1, EE.out.2.2.2.2.2.2.2.2]) rfl HR.out

set_option maxRecDepth 100000 in
set_option maxHeartbeats 8000000 in
theorem lone1 {w W0 : World} {base g off cp : Nat} {P : Addr} {p : List Fn} {Ap : Option Addr} {f : Frm} {v1 v2 : Value} (h : FAt w base g off f v1 v2) (hb : base ≤ w.heap.size) (hW : Below W0.heap.size W0 w) (hP : W0.cell? P = some (.slice Ap p.length cp)) (hr : ReadsF W0 Ap p)
    {fn pc : Nat} (efn : f.fn = fn) (epc : f.pc = pc) (hfn : fn < p.length) (hpc : pc < p[fn].code.length) {j : Nat} (hi : p[fn].code[pc] = ⟨1, j⟩) (fuel d : Int) (hf : 0 < fuel) (hf2 : fuel ≤ 100000) (h64 : p[fn].code.length ≤ 1000) (hs : f.stack.length ≤ 1000) (hj : j < f.locals.length) :
    Calls Tryz.prog 129 #[.pointer (some P), .pointer (some ⟨g, off, none⟩), .int .i64 fuel, .int .i64 d] w (OneE ((simF ⟨f.fn, (pc : Int) + 1, f.locals, f.stack⟩ ⟨1, j⟩).1) (⟨if (simF ⟨f.fn, (pc : Int) + 1, f.locals, f.stack⟩ ⟨1, j⟩).2 = true then 3 else 0, 0, fuel - 1, 0, [], 0, false, 0, false⟩) false base g off v1 v2 w) := by
  obtain ⟨K3, hK3⟩ : ∃ K3, (if (simF ⟨f.fn, (pc : Int) + 1, f.locals, f.stack⟩ ⟨1, j⟩).2 = true then (3 : Int) else 0) = K3 := ⟨_, rfl⟩
  rw [hK3]
  have HK3 := Lib.hid hK3
  clear hK3
  have d0 : (fuel == 0) = false := beq_eq_false_iff_ne.2 (by omega)
  have hfw : wrap64 (fuel - 1) = fuel - 1 := by unfold wrap64; omega
  have hpw : wrap64 ((pc : Int) + 1) = pc + 1 := by unfold wrap64; omega
  obtain ⟨w1, hw1⟩ : ∃ w1, w.alloc (.cells #[.int .i64 0, .int .i64 0, .int .i64 0, .int .i64 0, .slice none 0 0, .int .i64 0, .bool false, .int .i64 0, .bool false] 95) = w1 := ⟨_, rfl⟩
  obtain ⟨w2, hw2⟩ : ∃ w2, w1.alloc (.cells #[.int .i64 0, .int .i64 0, .int .i64 (fuel - 1), .int .i64 0, .slice none 0 0, .int .i64 0, .bool false, .int .i64 0, .bool false] 95) = w2 := ⟨_, rfl⟩
  have b1 : Below w.heap.size w w1 := hw1 ▸ below_alloc (Below.refl _ _) _
  have b2 : Below w1.heap.size w1 w2 := hw2 ▸ below_alloc (Below.refl _ _) _
  have b02 := below_trans b1 b2
  have y1 : w1.heap.size = w.heap.size + 1 := by rw [← hw1]; simp
  have y2 : w2.heap.size = w.heap.size + 2 := by rw [← hw2]; simp [y1]
  have r1 : RowAt 95 w.heap.size [.int .i64 0, .int .i64 0, .int .i64 0, .int .i64 0, .slice none 0 0, .int .i64 0, .bool false, .int .i64 0, .bool false] w2 := (hw1 ▸ RowAt.new _ _ w : RowAt 95 w.heap.size [.int .i64 0, .int .i64 0, .int .i64 0, .int .i64 0, .slice none 0 0, .int .i64 0, .bool false, .int .i64 0, .bool false] w1).below b2
  have r2 : RowAt 95 w1.heap.size [.int .i64 0, .int .i64 0, .int .i64 (fuel - 1), .int .i64 0, .slice none 0 0, .int .i64 0, .bool false, .int .i64 0, .bool false] w2 := hw2 ▸ RowAt.new _ _ w1
  have hF := h.below b02
  have hW2 := below_trans hW b02
  obtain ⟨ad, Ac, cc, rfl, c2, c0, c1, _⟩ := code_at hr hW2 hfn hpc
  have kP := cell_below hW2 hP
  obtain ⟨m0, m1, m2, m3, fz⟩ := hF.cells
  rw [efn] at m0
  rw [epc] at m1
  rw [hi] at c0 c1
  simp only at c0 c1
  have hpl := hr.1
  have HR1 := Lib.hid r1
  have HR2 := Lib.hid r2
  have HT2 := Lib.hid (FTurn.of_below h b02)
  have HW2 := Lib.hid hW2
  have AP := Lib.hid (fun (x : Nat) (hx : w.heap.size ≤ x) => h.apart hx)
  have Y := Lib.hid (And.intro y1 y2)
  have HB := Lib.hid hb
  have HW := Lib.hid hW
  have HV2 := Lib.hid h.lo2
  have HPP := Lib.hid (And.intro hP hr)
  have efn' := Lib.hid efn
  subst hw2
  clear y1 y2 h hb hW hP hr hi r1 r2 hF hW2 fz m2 m3 b1 b2 b02 efn
  go_enter Tryz.func129, Tryz.ntmps129
  go_upto_region 4 with fail
  generalize hw2 : w1.alloc (.cells #[.int .i64 0, .int .i64 0, .int .i64 (fuel - 1), .int .i64 0, .slice none 0 0, .int .i64 0, .bool false, .int .i64 0, .bool false] 95) = w2 at *
  clear hw1 hw2
  have b3 := below_alloc (Below.refl w2.heap.size w2) (.cells #[.int .i64 0, .int .i64 0] 48)
  have kP3 := cell_below b3 kP
  have c23 := cell_below b3 c2
  have c03 := cell_below b3 c0
  have c13 := cell_below b3 c1
  have m03 := cell_below b3 m0
  have m13 := cell_below b3 m1
  clear b3
  go_region
  clear kP3 c23 c03 c13 m03 m13 kP c0 c1 c2 m0 m1
  have b3 : Below w2.heap.size w2 (w2.alloc (.cells #[.int .i64 1, .int .i64 j] 48)).drew := below_drw (below_alloc (Below.refl w2.heap.size w2) _)
  have rI : RowAt 48 w2.heap.size [.int .i64 1, .int .i64 j] (w2.alloc (.cells #[.int .i64 1, .int .i64 j] 48)).drew := RowAt.new _ _ w2
  generalize hw3 : (w2.alloc (.cells #[.int .i64 1, .int .i64 j] 48)).drew = w3 at *
  have T3 := HT2.out.after b3
  obtain ⟨_, m1, _, _, fz⟩ := T3.at_.cells
  rw [epc] at m1
  have hz1 := fz (off + 1)
  obtain ⟨w4, hw4⟩ : ∃ w4, w3.setCell ⟨g, off + 1, none⟩ (.int .i64 ((pc : Int) + 1)) = w4 := ⟨_, rfl⟩
  have hP4 := T3.at_.put_pc ((pc : Int) + 1)
  rw [hw4] at hP4
  have T4 := Lib.hid (T3.trans hP4)
  have row4 : ∀ {t b : Nat} {cs : List Value}, RowAt t b cs w2 → w.heap.size ≤ b → RowAt t b cs w4 := fun hr hx => hP4.row (hr.below b3) (AP.out _ hx).1 (AP.out _ hx).2.1 (AP.out _ hx).2.2
  have rI4 := hP4.row rI (AP.out _ (show w.heap.size ≤ w2.heap.size by have := Y.out; omega)).1 (AP.out _ (show w.heap.size ≤ w2.heap.size by have := Y.out; omega)).2.1 (AP.out _ (show w.heap.size ≤ w2.heap.size by have := Y.out; omega)).2.2
  have R1 := Lib.hid (row4 HR1.out (Nat.le_refl _))
  have R2 := Lib.hid (row4 HR2.out (by have := Y.out; omega))
  have RI := Lib.hid rI4
  have i0 := rI4.cell (k := 0) (by simp)
  have i1 := rI4.cell (k := 1) (by simp)
  simp only [List.getElem_cons_zero, List.getElem_cons_succ] at i0 i1
  have S4 := Lib.hid (show w2.heap.size < w4.heap.size from blk_lt rI4)
  clear T3 hP4 row4 rI4 rI fz HT2 HR1 HR2
  have H := Lib.hid (lsimple1 T4.out.at_ (Nat.le_trans HB.out T4.out.chg.size) R2.out (AP.out _ (show w.heap.size ≤ w1.heap.size by have := Y.out; omega)).1 (AP.out _ (show w.heap.size ≤ w1.heap.size by have := Y.out; omega)).2.1 (AP.out _ (show w.heap.size ≤ w1.heap.size by have := Y.out; omega)).2.2 hs j hj)
  clear hj
  go_wp2_with fail
  (with_reducible refine H.out.mono ?_)
  rintro e w5 ⟨u, rfl, hat, hc, hbk, hnw, hrow⟩
  have T5 := Lib.hid (T4.out.trans_x hat hc hbk hnw (show w.heap.size ≤ w1.heap.size by have := Y.out; omega))
  have NU := Lib.hid (show ob u ≠ some w.heap.size from fun e => by
    rcases hnw _ e with e | e
    · exact (AP.out _ (Nat.le_refl _)).2.2 e
    · have := S4.out; have := Y.out; omega)
  have R15 := Lib.hid (R1.out.chg hc (fun e => by
    rcases e with (e | e | e) | e
    · exact (AP.out _ (Nat.le_refl _)).1 e
    · exact (AP.out _ (Nat.le_refl _)).2.1 e
    · exact (AP.out _ (Nat.le_refl _)).2.2 e
    · have := Y.out; omega))
  have R25 := Lib.hid (show RowAt 95 w1.heap.size [.int .i64 K3, .int .i64 0, .int .i64 (fuel - 1), .int .i64 0, .slice none 0 0, .int .i64 0, .bool false, .int .i64 0, .bool false] w5 from by
    rw [← HK3.out]
    cases hb : (simF ⟨f.fn, (pc : Int) + 1, f.locals, f.stack⟩ ⟨1, j⟩).2 with
    | true => rw [hb, if_pos rfl] at hrow; exact hrow
    | false => rw [hb, if_neg (by simp)] at hrow; exact hrow)
  clear hat hc hbk hnw hrow i0 i1
  obtain ⟨l0, l1, l2, l3, l4, l5, l6, l7, l8⟩ := row9 R25.out
  have pz := put9 R15.out rfl (.int .i64 K3) (.int .i64 0) (.int .i64 (fuel - 1)) (.int .i64 0) (.slice none 0 0) (.int .i64 0) (.bool false) (.int .i64 0) (.bool false)
  obtain ⟨hE, hRz, hKz⟩ := pz
  have EE := Lib.hid hE
  have HR := Lib.hid (one_end (x := ⟨K3, 0, fuel - 1, 0, [], 0, false, 0, false⟩) (jumps := false) (va := .slice none 0 0) T5.out (innI_nil _ _) (fun _ e => by cases e) hKz (Nat.le_refl _) (AP.out _ (Nat.le_refl _)).1 (AP.out _ (Nat.le_refl _)).2.1 NU.out (fun e => by cases e))
  clear hE hRz hKz
  obtain ⟨q0, q1, q2, q3, q4, q5, q6, q7, q8⟩ := row9 R15.out
  have z_ := fun k => (R15.out).free k
  have z0 := z_ 0
  have z1 := z_ 1
  have z2 := z_ 2
  have z3 := z_ 3
  have z4 := z_ 4
  have z5 := z_ 5
  have z6 := z_ 6
  have z7 := z_ 7
  have z8 := z_ 8
  clear z_
  go_wp2_with fail
  exact bodyPost_ret (v := .tuple #[.agg (excC (⟨K3, 0, fuel - 1, 0, [], 0, false, 0, false⟩) (.slice none 0 0)).toArray, .bool false]) (by simp [results, Tryz.results129, go_sem, excC, EE.out.1, EE.out.2.1, EE.out.2.2.1, EE.out.2.2.2.1, EE.out.2.2.2.2.1, EE.out.2.2.2.2.2.1, EE.out.2.2.2.2.2.2.1, EE.out.2.2.2.2.2.2.2.1, EE.out.2.2.2.2.2.2.2.2]) rfl HR.out

set_option maxRecDepth 100000 in
set_option maxHeartbeats 8000000 in
theorem lone2 {w W0 : World} {base g off cp : Nat} {P : Addr} {p : List Fn} {Ap : Option Addr} {f : Frm} {v1 v2 : Value} (h : FAt w base g off f v1 v2) (hb : base ≤ w.heap.size) (hW : Below W0.heap.size W0 w) (hP : W0.cell? P = some (.slice Ap p.length cp)) (hr : ReadsF W0 Ap p)
    {fn pc : Nat} (efn : f.fn = fn) (epc : f.pc = pc) (hfn : fn < p.length) (hpc : pc < p[fn].code.length) {j : Nat} (hi : p[fn].code[pc] = ⟨2, j⟩) (fuel d : Int) (hf : 0 < fuel) (hf2 : fuel ≤ 100000) (h64 : p[fn].code.length ≤ 1000) (hj : j < f.locals.length) (ht : 0 < f.stack.length) :
    Calls Tryz.prog 129 #[.pointer (some P), .pointer (some ⟨g, off, none⟩), .int .i64 fuel, .int .i64 d] w (OneE ((simF ⟨f.fn, (pc : Int) + 1, f.locals, f.stack⟩ ⟨2, j⟩).1) (⟨if (simF ⟨f.fn, (pc : Int) + 1, f.locals, f.stack⟩ ⟨2, j⟩).2 = true then 3 else 0, 0, fuel - 1, 0, [], 0, false, 0, false⟩) false base g off v1 v2 w) := by
  obtain ⟨K3, hK3⟩ : ∃ K3, (if (simF ⟨f.fn, (pc : Int) + 1, f.locals, f.stack⟩ ⟨2, j⟩).2 = true then (3 : Int) else 0) = K3 := ⟨_, rfl⟩
  rw [hK3]
  have HK3 := Lib.hid hK3
  clear hK3
  have d0 : (fuel == 0) = false := beq_eq_false_iff_ne.2 (by omega)
  have hfw : wrap64 (fuel - 1) = fuel - 1 := by unfold wrap64; omega
  have hpw : wrap64 ((pc : Int) + 1) = pc + 1 := by unfold wrap64; omega
  obtain ⟨w1, hw1⟩ : ∃ w1, w.alloc (.cells #[.int .i64 0, .int .i64 0, .int .i64 0, .int .i64 0, .slice none 0 0, .int .i64 0, .bool false, .int .i64 0, .bool false] 95) = w1 := ⟨_, rfl⟩
  obtain ⟨w2, hw2⟩ : ∃ w2, w1.alloc (.cells #[.int .i64 0, .int .i64 0, .int .i64 (fuel - 1), .int .i64 0, .slice none 0 0, .int .i64 0, .bool false, .int .i64 0, .bool false] 95) = w2 := ⟨_, rfl⟩
  have b1 : Below w.heap.size w w1 := hw1 ▸ below_alloc (Below.refl _ _) _
  have b2 : Below w1.heap.size w1 w2 := hw2 ▸ below_alloc (Below.refl _ _) _
  have b02 := below_trans b1 b2
  have y1 : w1.heap.size = w.heap.size + 1 := by rw [← hw1]; simp
  have y2 : w2.heap.size = w.heap.size + 2 := by rw [← hw2]; simp [y1]
  have r1 : RowAt 95 w.heap.size [.int .i64 0, .int .i64 0, .int .i64 0, .int .i64 0, .slice none 0 0, .int .i64 0, .bool false, .int .i64 0, .bool false] w2 := (hw1 ▸ RowAt.new _ _ w : RowAt 95 w.heap.size [.int .i64 0, .int .i64 0, .int .i64 0, .int .i64 0, .slice none 0 0, .int .i64 0, .bool false, .int .i64 0, .bool false] w1).below b2
  have r2 : RowAt 95 w1.heap.size [.int .i64 0, .int .i64 0, .int .i64 (fuel - 1), .int .i64 0, .slice none 0 0, .int .i64 0, .bool false, .int .i64 0, .bool false] w2 := hw2 ▸ RowAt.new _ _ w1
  have hF := h.below b02
  have hW2 := below_trans hW b02
  obtain ⟨ad, Ac, cc, rfl, c2, c0, c1, _⟩ := code_at hr hW2 hfn hpc
  have kP := cell_below hW2 hP
  obtain ⟨m0, m1, m2, m3, fz⟩ := hF.cells
  rw [efn] at m0
  rw [epc] at m1
  rw [hi] at c0 c1
  simp only at c0 c1
  have hpl := hr.1
  have HR1 := Lib.hid r1
  have HR2 := Lib.hid r2
  have HT2 := Lib.hid (FTurn.of_below h b02)
  have HW2 := Lib.hid hW2
  have AP := Lib.hid (fun (x : Nat) (hx : w.heap.size ≤ x) => h.apart hx)
  have Y := Lib.hid (And.intro y1 y2)
  have HB := Lib.hid hb
  have HW := Lib.hid hW
  have HV2 := Lib.hid h.lo2
  have HPP := Lib.hid (And.intro hP hr)
  have efn' := Lib.hid efn
  subst hw2
  clear y1 y2 h hb hW hP hr hi r1 r2 hF hW2 fz m2 m3 b1 b2 b02 efn
  go_enter Tryz.func129, Tryz.ntmps129
  go_upto_region 4 with fail
  generalize hw2 : w1.alloc (.cells #[.int .i64 0, .int .i64 0, .int .i64 (fuel - 1), .int .i64 0, .slice none 0 0, .int .i64 0, .bool false, .int .i64 0, .bool false] 95) = w2 at *
  clear hw1 hw2
  have b3 := below_alloc (Below.refl w2.heap.size w2) (.cells #[.int .i64 0, .int .i64 0] 48)
  have kP3 := cell_below b3 kP
  have c23 := cell_below b3 c2
  have c03 := cell_below b3 c0
  have c13 := cell_below b3 c1
  have m03 := cell_below b3 m0
  have m13 := cell_below b3 m1
  clear b3
  go_region
  clear kP3 c23 c03 c13 m03 m13 kP c0 c1 c2 m0 m1
  have b3 : Below w2.heap.size w2 (w2.alloc (.cells #[.int .i64 2, .int .i64 j] 48)).drew := below_drw (below_alloc (Below.refl w2.heap.size w2) _)
  have rI : RowAt 48 w2.heap.size [.int .i64 2, .int .i64 j] (w2.alloc (.cells #[.int .i64 2, .int .i64 j] 48)).drew := RowAt.new _ _ w2
  generalize hw3 : (w2.alloc (.cells #[.int .i64 2, .int .i64 j] 48)).drew = w3 at *
  have T3 := HT2.out.after b3
  obtain ⟨_, m1, _, _, fz⟩ := T3.at_.cells
  rw [epc] at m1
  have hz1 := fz (off + 1)
  obtain ⟨w4, hw4⟩ : ∃ w4, w3.setCell ⟨g, off + 1, none⟩ (.int .i64 ((pc : Int) + 1)) = w4 := ⟨_, rfl⟩
  have hP4 := T3.at_.put_pc ((pc : Int) + 1)
  rw [hw4] at hP4
  have T4 := Lib.hid (T3.trans hP4)
  have row4 : ∀ {t b : Nat} {cs : List Value}, RowAt t b cs w2 → w.heap.size ≤ b → RowAt t b cs w4 := fun hr hx => hP4.row (hr.below b3) (AP.out _ hx).1 (AP.out _ hx).2.1 (AP.out _ hx).2.2
  have rI4 := hP4.row rI (AP.out _ (show w.heap.size ≤ w2.heap.size by have := Y.out; omega)).1 (AP.out _ (show w.heap.size ≤ w2.heap.size by have := Y.out; omega)).2.1 (AP.out _ (show w.heap.size ≤ w2.heap.size by have := Y.out; omega)).2.2
  have R1 := Lib.hid (row4 HR1.out (Nat.le_refl _))
  have R2 := Lib.hid (row4 HR2.out (by have := Y.out; omega))
  have RI := Lib.hid rI4
  have i0 := rI4.cell (k := 0) (by simp)
  have i1 := rI4.cell (k := 1) (by simp)
  simp only [List.getElem_cons_zero, List.getElem_cons_succ] at i0 i1
  have S4 := Lib.hid (show w2.heap.size < w4.heap.size from blk_lt rI4)
  clear T3 hP4 row4 rI4 rI fz HT2 HR1 HR2
  have H := Lib.hid (lsimple2 T4.out.at_ (Nat.le_trans HB.out T4.out.chg.size) R2.out (AP.out _ (show w.heap.size ≤ w1.heap.size by have := Y.out; omega)).1 (AP.out _ (show w.heap.size ≤ w1.heap.size by have := Y.out; omega)).2.1 (AP.out _ (show w.heap.size ≤ w1.heap.size by have := Y.out; omega)).2.2 j hj ht)
  clear hj
  go_wp2_with fail
  (with_reducible refine H.out.mono ?_)
  rintro e w5 ⟨u, rfl, hat, hc, hbk, hnw, hrow⟩
  have T5 := Lib.hid (T4.out.trans_x hat hc hbk hnw (show w.heap.size ≤ w1.heap.size by have := Y.out; omega))
  have NU := Lib.hid (show ob u ≠ some w.heap.size from fun e => by
    rcases hnw _ e with e | e
    · exact (AP.out _ (Nat.le_refl _)).2.2 e
    · have := S4.out; have := Y.out; omega)
  have R15 := Lib.hid (R1.out.chg hc (fun e => by
    rcases e with (e | e | e) | e
    · exact (AP.out _ (Nat.le_refl _)).1 e
    · exact (AP.out _ (Nat.le_refl _)).2.1 e
    · exact (AP.out _ (Nat.le_refl _)).2.2 e
    · have := Y.out; omega))
  have R25 := Lib.hid (show RowAt 95 w1.heap.size [.int .i64 K3, .int .i64 0, .int .i64 (fuel - 1), .int .i64 0, .slice none 0 0, .int .i64 0, .bool false, .int .i64 0, .bool false] w5 from by
    rw [← HK3.out]
    cases hb : (simF ⟨f.fn, (pc : Int) + 1, f.locals, f.stack⟩ ⟨2, j⟩).2 with
    | true => rw [hb, if_pos rfl] at hrow; exact hrow
    | false => rw [hb, if_neg (by simp)] at hrow; exact hrow)
  clear hat hc hbk hnw hrow i0 i1
  obtain ⟨l0, l1, l2, l3, l4, l5, l6, l7, l8⟩ := row9 R25.out
  have pz := put9 R15.out rfl (.int .i64 K3) (.int .i64 0) (.int .i64 (fuel - 1)) (.int .i64 0) (.slice none 0 0) (.int .i64 0) (.bool false) (.int .i64 0) (.bool false)
  obtain ⟨hE, hRz, hKz⟩ := pz
  have EE := Lib.hid hE
  have HR := Lib.hid (one_end (x := ⟨K3, 0, fuel - 1, 0, [], 0, false, 0, false⟩) (jumps := false) (va := .slice none 0 0) T5.out (innI_nil _ _) (fun _ e => by cases e) hKz (Nat.le_refl _) (AP.out _ (Nat.le_refl _)).1 (AP.out _ (Nat.le_refl _)).2.1 NU.out (fun e => by cases e))
  clear hE hRz hKz
  obtain ⟨q0, q1, q2, q3, q4, q5, q6, q7, q8⟩ := row9 R15.out
  have z_ := fun k => (R15.out).free k
  have z0 := z_ 0
  have z1 := z_ 1
  have z2 := z_ 2
  have z3 := z_ 3
  have z4 := z_ 4
  have z5 := z_ 5
  have z6 := z_ 6
  have z7 := z_ 7
  have z8 := z_ 8
  clear z_
  go_wp2_with fail
  exact bodyPost_ret (v := .tuple #[.agg (excC (⟨K3, 0, fuel - 1, 0, [], 0, false, 0, false⟩) (.slice none 0 0)).toArray, .bool false]) (by simp [results, Tryz.results129, go_sem, excC, EE.out.1, EE.out.2.1, EE.out.2.2.1, EE.out.2.2.2.1, EE.out.2.2.2.2.1, EE.out.2.2.2.2.2.1, EE.out.2.2.2.2.2.2.1, EE.out.2.2.2.2.2.2.2.1, EE.out.2.2.2.2.2.2.2.2]) rfl HR.out

set_option maxRecDepth 100000 in
set_option maxHeartbeats 8000000 in
theorem lone10 {w W0 : World} {base g off cp : Nat} {P : Addr} {p : List Fn} {Ap : Option Addr} {f : Frm} {v1 v2 : Value} (h : FAt w base g off f v1 v2) (hb : base ≤ w.heap.size) (hW : Below W0.heap.size W0 w) (hP : W0.cell? P = some (.slice Ap p.length cp)) (hr : ReadsF W0 Ap p)
    {fn pc : Nat} (efn : f.fn = fn) (epc : f.pc = pc) (hfn : fn < p.length) (hpc : pc < p[fn].code.length) {a : Int} (hi : p[fn].code[pc] = ⟨10, a⟩) (fuel d : Int) (hf : 0 < fuel) (hf2 : fuel ≤ 100000) (h64 : p[fn].code.length ≤ 1000) (hs : f.stack.length ≤ 1000) (ht : 0 < f.stack.length) :
    Calls Tryz.prog 129 #[.pointer (some P), .pointer (some ⟨g, off, none⟩), .int .i64 fuel, .int .i64 d] w (OneE ((simF ⟨f.fn, (pc : Int) + 1, f.locals, f.stack⟩ ⟨10, a⟩).1) (⟨if (simF ⟨f.fn, (pc : Int) + 1, f.locals, f.stack⟩ ⟨10, a⟩).2 = true then 3 else 0, 0, fuel - 1, 0, [], 0, false, 0, false⟩) false base g off v1 v2 w) := by
  obtain ⟨K3, hK3⟩ : ∃ K3, (if (simF ⟨f.fn, (pc : Int) + 1, f.locals, f.stack⟩ ⟨10, a⟩).2 = true then (3 : Int) else 0) = K3 := ⟨_, rfl⟩
  rw [hK3]
  have HK3 := Lib.hid hK3
  clear hK3
  have d0 : (fuel == 0) = false := beq_eq_false_iff_ne.2 (by omega)
  have hfw : wrap64 (fuel - 1) = fuel - 1 := by unfold wrap64; omega
  have hpw : wrap64 ((pc : Int) + 1) = pc + 1 := by unfold wrap64; omega
  obtain ⟨w1, hw1⟩ : ∃ w1, w.alloc (.cells #[.int .i64 0, .int .i64 0, .int .i64 0, .int .i64 0, .slice none 0 0, .int .i64 0, .bool false, .int .i64 0, .bool false] 95) = w1 := ⟨_, rfl⟩
  obtain ⟨w2, hw2⟩ : ∃ w2, w1.alloc (.cells #[.int .i64 0, .int .i64 0, .int .i64 (fuel - 1), .int .i64 0, .slice none 0 0, .int .i64 0, .bool false, .int .i64 0, .bool false] 95) = w2 := ⟨_, rfl⟩
  have b1 : Below w.heap.size w w1 := hw1 ▸ below_alloc (Below.refl _ _) _
  have b2 : Below w1.heap.size w1 w2 := hw2 ▸ below_alloc (Below.refl _ _) _
  have b02 := below_trans b1 b2
  have y1 : w1.heap.size = w.heap.size + 1 := by rw [← hw1]; simp
  have y2 : w2.heap.size = w.heap.size + 2 := by rw [← hw2]; simp [y1]
  have r1 : RowAt 95 w.heap.size [.int .i64 0, .int .i64 0, .int .i64 0, .int .i64 0, .slice none 0 0, .int .i64 0, .bool false, .int .i64 0, .bool false] w2 := (hw1 ▸ RowAt.new _ _ w : RowAt 95 w.heap.size [.int .i64 0, .int .i64 0, .int .i64 0, .int .i64 0, .slice none 0 0, .int .i64 0, .bool false, .int .i64 0, .bool false] w1).below b2
  have r2 : RowAt 95 w1.heap.size [.int .i64 0, .int .i64 0, .int .i64 (fuel - 1), .int .i64 0, .slice none 0 0, .int .i64 0, .bool false, .int .i64 0, .bool false] w2 := hw2 ▸ RowAt.new _ _ w1
  have hF := h.below b02
  have hW2 := below_trans hW b02
  obtain ⟨ad, Ac, cc, rfl, c2, c0, c1, _⟩ := code_at hr hW2 hfn hpc
  have kP := cell_below hW2 hP
  obtain ⟨m0, m1, m2, m3, fz⟩ := hF.cells
  rw [efn] at m0
  rw [epc] at m1
  rw [hi] at c0 c1
  simp only at c0 c1
  have hpl := hr.1
  have HR1 := Lib.hid r1
  have HR2 := Lib.hid r2
  have HT2 := Lib.hid (FTurn.of_below h b02)
  have HW2 := Lib.hid hW2
  have AP := Lib.hid (fun (x : Nat) (hx : w.heap.size ≤ x) => h.apart hx)
  have Y := Lib.hid (And.intro y1 y2)
  have HB := Lib.hid hb
  have HW := Lib.hid hW
  have HV2 := Lib.hid h.lo2
  have HPP := Lib.hid (And.intro hP hr)
  have efn' := Lib.hid efn
  subst hw2
  clear y1 y2 h hb hW hP hr hi r1 r2 hF hW2 fz m2 m3 b1 b2 b02 efn
  go_enter Tryz.func129, Tryz.ntmps129
  go_upto_region 4 with fail
  generalize hw2 : w1.alloc (.cells #[.int .i64 0, .int .i64 0, .int .i64 (fuel - 1), .int .i64 0, .slice none 0 0, .int .i64 0, .bool false, .int .i64 0, .bool false] 95) = w2 at *
  clear hw1 hw2
  have b3 := below_alloc (Below.refl w2.heap.size w2) (.cells #[.int .i64 0, .int .i64 0] 48)
  have kP3 := cell_below b3 kP
  have c23 := cell_below b3 c2
  have c03 := cell_below b3 c0
  have c13 := cell_below b3 c1
  have m03 := cell_below b3 m0
  have m13 := cell_below b3 m1
  clear b3
  go_region
  clear kP3 c23 c03 c13 m03 m13 kP c0 c1 c2 m0 m1
  have b3 : Below w2.heap.size w2 (w2.alloc (.cells #[.int .i64 10, .int .i64 a] 48)).drew := below_drw (below_alloc (Below.refl w2.heap.size w2) _)
  have rI : RowAt 48 w2.heap.size [.int .i64 10, .int .i64 a] (w2.alloc (.cells #[.int .i64 10, .int .i64 a] 48)).drew := RowAt.new _ _ w2
  generalize hw3 : (w2.alloc (.cells #[.int .i64 10, .int .i64 a] 48)).drew = w3 at *
  have T3 := HT2.out.after b3
  obtain ⟨_, m1, _, _, fz⟩ := T3.at_.cells
  rw [epc] at m1
  have hz1 := fz (off + 1)
  obtain ⟨w4, hw4⟩ : ∃ w4, w3.setCell ⟨g, off + 1, none⟩ (.int .i64 ((pc : Int) + 1)) = w4 := ⟨_, rfl⟩
  have hP4 := T3.at_.put_pc ((pc : Int) + 1)
  rw [hw4] at hP4
  have T4 := Lib.hid (T3.trans hP4)
  have row4 : ∀ {t b : Nat} {cs : List Value}, RowAt t b cs w2 → w.heap.size ≤ b → RowAt t b cs w4 := fun hr hx => hP4.row (hr.below b3) (AP.out _ hx).1 (AP.out _ hx).2.1 (AP.out _ hx).2.2
  have rI4 := hP4.row rI (AP.out _ (show w.heap.size ≤ w2.heap.size by have := Y.out; omega)).1 (AP.out _ (show w.heap.size ≤ w2.heap.size by have := Y.out; omega)).2.1 (AP.out _ (show w.heap.size ≤ w2.heap.size by have := Y.out; omega)).2.2
  have R1 := Lib.hid (row4 HR1.out (Nat.le_refl _))
  have R2 := Lib.hid (row4 HR2.out (by have := Y.out; omega))
  have RI := Lib.hid rI4
  have i0 := rI4.cell (k := 0) (by simp)
  have i1 := rI4.cell (k := 1) (by simp)
  simp only [List.getElem_cons_zero, List.getElem_cons_succ] at i0 i1
  have S4 := Lib.hid (show w2.heap.size < w4.heap.size from blk_lt rI4)
  clear T3 hP4 row4 rI4 rI fz HT2 HR1 HR2
  have H := Lib.hid (lsimple10 T4.out.at_ (Nat.le_trans HB.out T4.out.chg.size) R2.out (AP.out _ (show w.heap.size ≤ w1.heap.size by have := Y.out; omega)).1 (AP.out _ (show w.heap.size ≤ w1.heap.size by have := Y.out; omega)).2.1 (AP.out _ (show w.heap.size ≤ w1.heap.size by have := Y.out; omega)).2.2 hs a ht)
  go_wp2_with fail
  (with_reducible refine H.out.mono ?_)
  rintro e w5 ⟨u, rfl, hat, hc, hbk, hnw, hrow⟩
  have T5 := Lib.hid (T4.out.trans_x hat hc hbk hnw (show w.heap.size ≤ w1.heap.size by have := Y.out; omega))
  have NU := Lib.hid (show ob u ≠ some w.heap.size from fun e => by
    rcases hnw _ e with e | e
    · exact (AP.out _ (Nat.le_refl _)).2.2 e
    · have := S4.out; have := Y.out; omega)
  have R15 := Lib.hid (R1.out.chg hc (fun e => by
    rcases e with (e | e | e) | e
    · exact (AP.out _ (Nat.le_refl _)).1 e
    · exact (AP.out _ (Nat.le_refl _)).2.1 e
    · exact (AP.out _ (Nat.le_refl _)).2.2 e
    · have := Y.out; omega))
  have R25 := Lib.hid (show RowAt 95 w1.heap.size [.int .i64 K3, .int .i64 0, .int .i64 (fuel - 1), .int .i64 0, .slice none 0 0, .int .i64 0, .bool false, .int .i64 0, .bool false] w5 from by
    rw [← HK3.out]
    cases hb : (simF ⟨f.fn, (pc : Int) + 1, f.locals, f.stack⟩ ⟨10, a⟩).2 with
    | true => rw [hb, if_pos rfl] at hrow; exact hrow
    | false => rw [hb, if_neg (by simp)] at hrow; exact hrow)
  clear hat hc hbk hnw hrow i0 i1
  obtain ⟨l0, l1, l2, l3, l4, l5, l6, l7, l8⟩ := row9 R25.out
  have pz := put9 R15.out rfl (.int .i64 K3) (.int .i64 0) (.int .i64 (fuel - 1)) (.int .i64 0) (.slice none 0 0) (.int .i64 0) (.bool false) (.int .i64 0) (.bool false)
  obtain ⟨hE, hRz, hKz⟩ := pz
  have EE := Lib.hid hE
  have HR := Lib.hid (one_end (x := ⟨K3, 0, fuel - 1, 0, [], 0, false, 0, false⟩) (jumps := false) (va := .slice none 0 0) T5.out (innI_nil _ _) (fun _ e => by cases e) hKz (Nat.le_refl _) (AP.out _ (Nat.le_refl _)).1 (AP.out _ (Nat.le_refl _)).2.1 NU.out (fun e => by cases e))
  clear hE hRz hKz
  obtain ⟨q0, q1, q2, q3, q4, q5, q6, q7, q8⟩ := row9 R15.out
  have z_ := fun k => (R15.out).free k
  have z0 := z_ 0
  have z1 := z_ 1
  have z2 := z_ 2
  have z3 := z_ 3
  have z4 := z_ 4
  have z5 := z_ 5
  have z6 := z_ 6
  have z7 := z_ 7
  have z8 := z_ 8
  clear z_
  go_wp2_with fail
  exact bodyPost_ret (v := .tuple #[.agg (excC (⟨K3, 0, fuel - 1, 0, [], 0, false, 0, false⟩) (.slice none 0 0)).toArray, .bool false]) (by simp [results, Tryz.results129, go_sem, excC, EE.out.1, EE.out.2.1, EE.out.2.2.1, EE.out.2.2.2.1, EE.out.2.2.2.2.1, EE.out.2.2.2.2.2.1, EE.out.2.2.2.2.2.2.1, EE.out.2.2.2.2.2.2.2.1, EE.out.2.2.2.2.2.2.2.2]) rfl HR.out

set_option maxRecDepth 100000 in
set_option maxHeartbeats 8000000 in
theorem lone11 {w W0 : World} {base g off cp : Nat} {P : Addr} {p : List Fn} {Ap : Option Addr} {f : Frm} {v1 v2 : Value} (h : FAt w base g off f v1 v2) (hb : base ≤ w.heap.size) (hW : Below W0.heap.size W0 w) (hP : W0.cell? P = some (.slice Ap p.length cp)) (hr : ReadsF W0 Ap p)
    {fn pc : Nat} (efn : f.fn = fn) (epc : f.pc = pc) (hfn : fn < p.length) (hpc : pc < p[fn].code.length) {a : Int} (hi : p[fn].code[pc] = ⟨11, a⟩) (fuel d : Int) (hf : 0 < fuel) (hf2 : fuel ≤ 100000) (h64 : p[fn].code.length ≤ 1000) (ht : 0 < f.stack.length) :
    Calls Tryz.prog 129 #[.pointer (some P), .pointer (some ⟨g, off, none⟩), .int .i64 fuel, .int .i64 d] w (OneE ((simF ⟨f.fn, (pc : Int) + 1, f.locals, f.stack⟩ ⟨11, a⟩).1) (⟨if (simF ⟨f.fn, (pc : Int) + 1, f.locals, f.stack⟩ ⟨11, a⟩).2 = true then 3 else 0, 0, fuel - 1, 0, [], 0, false, 0, false⟩) false base g off v1 v2 w) := by
  obtain ⟨K3, hK3⟩ : ∃ K3, (if (simF ⟨f.fn, (pc : Int) + 1, f.locals, f.stack⟩ ⟨11, a⟩).2 = true then (3 : Int) else 0) = K3 := ⟨_, rfl⟩
  rw [hK3]
  have HK3 := Lib.hid hK3
  clear hK3
  have d0 : (fuel == 0) = false := beq_eq_false_iff_ne.2 (by omega)
  have hfw : wrap64 (fuel - 1) = fuel - 1 := by unfold wrap64; omega
  have hpw : wrap64 ((pc : Int) + 1) = pc + 1 := by unfold wrap64; omega
  obtain ⟨w1, hw1⟩ : ∃ w1, w.alloc (.cells #[.int .i64 0, .int .i64 0, .int .i64 0, .int .i64 0, .slice none 0 0, .int .i64 0, .bool false, .int .i64 0, .bool false] 95) = w1 := ⟨_, rfl⟩
  obtain ⟨w2, hw2⟩ : ∃ w2, w1.alloc (.cells #[.int .i64 0, .int .i64 0, .int .i64 (fuel - 1), .int .i64 0, .slice none 0 0, .int .i64 0, .bool false, .int .i64 0, .bool false] 95) = w2 := ⟨_, rfl⟩
  have b1 : Below w.heap.size w w1 := hw1 ▸ below_alloc (Below.refl _ _) _
  have b2 : Below w1.heap.size w1 w2 := hw2 ▸ below_alloc (Below.refl _ _) _
  have b02 := below_trans b1 b2
  have y1 : w1.heap.size = w.heap.size + 1 := by rw [← hw1]; simp
  have y2 : w2.heap.size = w.heap.size + 2 := by rw [← hw2]; simp [y1]
  have r1 : RowAt 95 w.heap.size [.int .i64 0, .int .i64 0, .int .i64 0, .int .i64 0, .slice none 0 0, .int .i64 0, .bool false, .int .i64 0, .bool false] w2 := (hw1 ▸ RowAt.new _ _ w : RowAt 95 w.heap.size [.int .i64 0, .int .i64 0, .int .i64 0, .int .i64 0, .slice none 0 0, .int .i64 0, .bool false, .int .i64 0, .bool false] w1).below b2
  have r2 : RowAt 95 w1.heap.size [.int .i64 0, .int .i64 0, .int .i64 (fuel - 1), .int .i64 0, .slice none 0 0, .int .i64 0, .bool false, .int .i64 0, .bool false] w2 := hw2 ▸ RowAt.new _ _ w1
  have hF := h.below b02
  have hW2 := below_trans hW b02
  obtain ⟨ad, Ac, cc, rfl, c2, c0, c1, _⟩ := code_at hr hW2 hfn hpc
  have kP := cell_below hW2 hP
  obtain ⟨m0, m1, m2, m3, fz⟩ := hF.cells
  rw [efn] at m0
  rw [epc] at m1
  rw [hi] at c0 c1
  simp only at c0 c1
  have hpl := hr.1
  have HR1 := Lib.hid r1
  have HR2 := Lib.hid r2
  have HT2 := Lib.hid (FTurn.of_below h b02)
  have HW2 := Lib.hid hW2
  have AP := Lib.hid (fun (x : Nat) (hx : w.heap.size ≤ x) => h.apart hx)
  have Y := Lib.hid (And.intro y1 y2)
  have HB := Lib.hid hb
  have HW := Lib.hid hW
  have HV2 := Lib.hid h.lo2
  have HPP := Lib.hid (And.intro hP hr)
  have efn' := Lib.hid efn
  subst hw2
  clear y1 y2 h hb hW hP hr hi r1 r2 hF hW2 fz m2 m3 b1 b2 b02 efn
  go_enter Tryz.func129, Tryz.ntmps129
  go_upto_region 4 with fail
  generalize hw2 : w1.alloc (.cells #[.int .i64 0, .int .i64 0, .int .i64 (fuel - 1), .int .i64 0, .slice none 0 0, .int .i64 0, .bool false, .int .i64 0, .bool false] 95) = w2 at *
  clear hw1 hw2
  have b3 := below_alloc (Below.refl w2.heap.size w2) (.cells #[.int .i64 0, .int .i64 0] 48)
  have kP3 := cell_below b3 kP
  have c23 := cell_below b3 c2
  have c03 := cell_below b3 c0
  have c13 := cell_below b3 c1
  have m03 := cell_below b3 m0
  have m13 := cell_below b3 m1
  clear b3
  go_region
  clear kP3 c23 c03 c13 m03 m13 kP c0 c1 c2 m0 m1
  have b3 : Below w2.heap.size w2 (w2.alloc (.cells #[.int .i64 11, .int .i64 a] 48)).drew := below_drw (below_alloc (Below.refl w2.heap.size w2) _)
  have rI : RowAt 48 w2.heap.size [.int .i64 11, .int .i64 a] (w2.alloc (.cells #[.int .i64 11, .int .i64 a] 48)).drew := RowAt.new _ _ w2
  generalize hw3 : (w2.alloc (.cells #[.int .i64 11, .int .i64 a] 48)).drew = w3 at *
  have T3 := HT2.out.after b3
  obtain ⟨_, m1, _, _, fz⟩ := T3.at_.cells
  rw [epc] at m1
  have hz1 := fz (off + 1)
  obtain ⟨w4, hw4⟩ : ∃ w4, w3.setCell ⟨g, off + 1, none⟩ (.int .i64 ((pc : Int) + 1)) = w4 := ⟨_, rfl⟩
  have hP4 := T3.at_.put_pc ((pc : Int) + 1)
  rw [hw4] at hP4
  have T4 := Lib.hid (T3.trans hP4)
  have row4 : ∀ {t b : Nat} {cs : List Value}, RowAt t b cs w2 → w.heap.size ≤ b → RowAt t b cs w4 := fun hr hx => hP4.row (hr.below b3) (AP.out _ hx).1 (AP.out _ hx).2.1 (AP.out _ hx).2.2
  have rI4 := hP4.row rI (AP.out _ (show w.heap.size ≤ w2.heap.size by have := Y.out; omega)).1 (AP.out _ (show w.heap.size ≤ w2.heap.size by have := Y.out; omega)).2.1 (AP.out _ (show w.heap.size ≤ w2.heap.size by have := Y.out; omega)).2.2
  have R1 := Lib.hid (row4 HR1.out (Nat.le_refl _))
  have R2 := Lib.hid (row4 HR2.out (by have := Y.out; omega))
  have RI := Lib.hid rI4
  have i0 := rI4.cell (k := 0) (by simp)
  have i1 := rI4.cell (k := 1) (by simp)
  simp only [List.getElem_cons_zero, List.getElem_cons_succ] at i0 i1
  have S4 := Lib.hid (show w2.heap.size < w4.heap.size from blk_lt rI4)
  clear T3 hP4 row4 rI4 rI fz HT2 HR1 HR2
  have H := Lib.hid (lsimple11 T4.out.at_ (Nat.le_trans HB.out T4.out.chg.size) R2.out (AP.out _ (show w.heap.size ≤ w1.heap.size by have := Y.out; omega)).1 (AP.out _ (show w.heap.size ≤ w1.heap.size by have := Y.out; omega)).2.1 (AP.out _ (show w.heap.size ≤ w1.heap.size by have := Y.out; omega)).2.2 a ht)
  go_wp2_with fail
  (with_reducible refine H.out.mono ?_)
  rintro e w5 ⟨u, rfl, hat, hc, hbk, hnw, hrow⟩
  have T5 := Lib.hid (T4.out.trans_x hat hc hbk hnw (show w.heap.size ≤ w1.heap.size by have := Y.out; omega))
  have NU := Lib.hid (show ob u ≠ some w.heap.size from fun e => by
    rcases hnw _ e with e | e
    · exact (AP.out _ (Nat.le_refl _)).2.2 e
    · have := S4.out; have := Y.out; omega)
  have R15 := Lib.hid (R1.out.chg hc (fun e => by
    rcases e with (e | e | e) | e
    · exact (AP.out _ (Nat.le_refl _)).1 e
    · exact (AP.out _ (Nat.le_refl _)).2.1 e
    · exact (AP.out _ (Nat.le_refl _)).2.2 e
    · have := Y.out; omega))
  have R25 := Lib.hid (show RowAt 95 w1.heap.size [.int .i64 K3, .int .i64 0, .int .i64 (fuel - 1), .int .i64 0, .slice none 0 0, .int .i64 0, .bool false, .int .i64 0, .bool false] w5 from by
    rw [← HK3.out]
    cases hb : (simF ⟨f.fn, (pc : Int) + 1, f.locals, f.stack⟩ ⟨11, a⟩).2 with
    | true => rw [hb, if_pos rfl] at hrow; exact hrow
    | false => rw [hb, if_neg (by simp)] at hrow; exact hrow)
  clear hat hc hbk hnw hrow i0 i1
  obtain ⟨l0, l1, l2, l3, l4, l5, l6, l7, l8⟩ := row9 R25.out
  have pz := put9 R15.out rfl (.int .i64 K3) (.int .i64 0) (.int .i64 (fuel - 1)) (.int .i64 0) (.slice none 0 0) (.int .i64 0) (.bool false) (.int .i64 0) (.bool false)
  obtain ⟨hE, hRz, hKz⟩ := pz
  have EE := Lib.hid hE
  have HR := Lib.hid (one_end (x := ⟨K3, 0, fuel - 1, 0, [], 0, false, 0, false⟩) (jumps := false) (va := .slice none 0 0) T5.out (innI_nil _ _) (fun _ e => by cases e) hKz (Nat.le_refl _) (AP.out _ (Nat.le_refl _)).1 (AP.out _ (Nat.le_refl _)).2.1 NU.out (fun e => by cases e))
  clear hE hRz hKz
  obtain ⟨q0, q1, q2, q3, q4, q5, q6, q7, q8⟩ := row9 R15.out
  have z_ := fun k => (R15.out).free k
  have z0 := z_ 0
  have z1 := z_ 1
  have z2 := z_ 2
  have z3 := z_ 3
  have z4 := z_ 4
  have z5 := z_ 5
  have z6 := z_ 6
  have z7 := z_ 7
  have z8 := z_ 8
  clear z_
  go_wp2_with fail
  exact bodyPost_ret (v := .tuple #[.agg (excC (⟨K3, 0, fuel - 1, 0, [], 0, false, 0, false⟩) (.slice none 0 0)).toArray, .bool false]) (by simp [results, Tryz.results129, go_sem, excC, EE.out.1, EE.out.2.1, EE.out.2.2.1, EE.out.2.2.2.1, EE.out.2.2.2.2.1, EE.out.2.2.2.2.2.1, EE.out.2.2.2.2.2.2.1, EE.out.2.2.2.2.2.2.2.1, EE.out.2.2.2.2.2.2.2.2]) rfl HR.out

set_option maxRecDepth 100000 in
set_option maxHeartbeats 8000000 in
theorem loneD {w W0 : World} {base g off cp : Nat} {P : Addr} {p : List Fn} {Ap : Option Addr} {f : Frm} {v1 v2 : Value} (h : FAt w base g off f v1 v2) (hb : base ≤ w.heap.size) (hW : Below W0.heap.size W0 w) (hP : W0.cell? P = some (.slice Ap p.length cp)) (hr : ReadsF W0 Ap p)
    {fn pc : Nat} (efn : f.fn = fn) (epc : f.pc = pc) (hfn : fn < p.length) (hpc : pc < p[fn].code.length) {kd a : Int} (hi : p[fn].code[pc] = ⟨kd, a⟩) (fuel d : Int) (hf : 0 < fuel) (hf2 : fuel ≤ 100000) (h64 : p[fn].code.length ≤ 1000) (hs : f.stack.length ≤ 1000) (h3 : 3 ≤ kd) (h9 : kd ≤ 9) (ht : 2 ≤ f.stack.length) (hall : f.stack.all isNum = true) :
    Calls Tryz.prog 129 #[.pointer (some P), .pointer (some ⟨g, off, none⟩), .int .i64 fuel, .int .i64 d] w (OneE ((simF ⟨f.fn, (pc : Int) + 1, f.locals, f.stack⟩ ⟨kd, a⟩).1) (⟨if (simF ⟨f.fn, (pc : Int) + 1, f.locals, f.stack⟩ ⟨kd, a⟩).2 = true then 3 else 0, 0, fuel - 1, 0, [], 0, false, 0, false⟩) false base g off v1 v2 w) := by
  obtain ⟨K3, hK3⟩ : ∃ K3, (if (simF ⟨f.fn, (pc : Int) + 1, f.locals, f.stack⟩ ⟨kd, a⟩).2 = true then (3 : Int) else 0) = K3 := ⟨_, rfl⟩
  rw [hK3]
  have HK3 := Lib.hid hK3
  clear hK3
  have d0 : (fuel == 0) = false := beq_eq_false_iff_ne.2 (by omega)
  have hfw : wrap64 (fuel - 1) = fuel - 1 := by unfold wrap64; omega
  have hpw : wrap64 ((pc : Int) + 1) = pc + 1 := by unfold wrap64; omega
  obtain ⟨w1, hw1⟩ : ∃ w1, w.alloc (.cells #[.int .i64 0, .int .i64 0, .int .i64 0, .int .i64 0, .slice none 0 0, .int .i64 0, .bool false, .int .i64 0, .bool false] 95) = w1 := ⟨_, rfl⟩
  obtain ⟨w2, hw2⟩ : ∃ w2, w1.alloc (.cells #[.int .i64 0, .int .i64 0, .int .i64 (fuel - 1), .int .i64 0, .slice none 0 0, .int .i64 0, .bool false, .int .i64 0, .bool false] 95) = w2 := ⟨_, rfl⟩
  have b1 : Below w.heap.size w w1 := hw1 ▸ below_alloc (Below.refl _ _) _
  have b2 : Below w1.heap.size w1 w2 := hw2 ▸ below_alloc (Below.refl _ _) _
  have b02 := below_trans b1 b2
  have y1 : w1.heap.size = w.heap.size + 1 := by rw [← hw1]; simp
  have y2 : w2.heap.size = w.heap.size + 2 := by rw [← hw2]; simp [y1]
  have r1 : RowAt 95 w.heap.size [.int .i64 0, .int .i64 0, .int .i64 0, .int .i64 0, .slice none 0 0, .int .i64 0, .bool false, .int .i64 0, .bool false] w2 := (hw1 ▸ RowAt.new _ _ w : RowAt 95 w.heap.size [.int .i64 0, .int .i64 0, .int .i64 0, .int .i64 0, .slice none 0 0, .int .i64 0, .bool false, .int .i64 0, .bool false] w1).below b2
  have r2 : RowAt 95 w1.heap.size [.int .i64 0, .int .i64 0, .int .i64 (fuel - 1), .int .i64 0, .slice none 0 0, .int .i64 0, .bool false, .int .i64 0, .bool false] w2 := hw2 ▸ RowAt.new _ _ w1
  have hF := h.below b02
  have hW2 := below_trans hW b02
  obtain ⟨ad, Ac, cc, rfl, c2, c0, c1, _⟩ := code_at hr hW2 hfn hpc
  have kP := cell_below hW2 hP
  obtain ⟨m0, m1, m2, m3, fz⟩ := hF.cells
  rw [efn] at m0
  rw [epc] at m1
  rw [hi] at c0 c1
  simp only at c0 c1
  have hpl := hr.1
  have HR1 := Lib.hid r1
  have HR2 := Lib.hid r2
  have HT2 := Lib.hid (FTurn.of_below h b02)
  have HW2 := Lib.hid hW2
  have AP := Lib.hid (fun (x : Nat) (hx : w.heap.size ≤ x) => h.apart hx)
  have Y := Lib.hid (And.intro y1 y2)
  have HB := Lib.hid hb
  have HW := Lib.hid hW
  have HV2 := Lib.hid h.lo2
  have HPP := Lib.hid (And.intro hP hr)
  have efn' := Lib.hid efn
  subst hw2
  clear y1 y2 h hb hW hP hr hi r1 r2 hF hW2 fz m2 m3 b1 b2 b02 efn
  go_enter Tryz.func129, Tryz.ntmps129
  go_upto_region 4 with fail
  generalize hw2 : w1.alloc (.cells #[.int .i64 0, .int .i64 0, .int .i64 (fuel - 1), .int .i64 0, .slice none 0 0, .int .i64 0, .bool false, .int .i64 0, .bool false] 95) = w2 at *
  clear hw1 hw2
  have b3 := below_alloc (Below.refl w2.heap.size w2) (.cells #[.int .i64 0, .int .i64 0] 48)
  have kP3 := cell_below b3 kP
  have c23 := cell_below b3 c2
  have c03 := cell_below b3 c0
  have c13 := cell_below b3 c1
  have m03 := cell_below b3 m0
  have m13 := cell_below b3 m1
  clear b3
  go_region
  clear kP3 c23 c03 c13 m03 m13 kP c0 c1 c2 m0 m1
  have b3 : Below w2.heap.size w2 (w2.alloc (.cells #[.int .i64 kd, .int .i64 a] 48)).drew := below_drw (below_alloc (Below.refl w2.heap.size w2) _)
  have rI : RowAt 48 w2.heap.size [.int .i64 kd, .int .i64 a] (w2.alloc (.cells #[.int .i64 kd, .int .i64 a] 48)).drew := RowAt.new _ _ w2
  generalize hw3 : (w2.alloc (.cells #[.int .i64 kd, .int .i64 a] 48)).drew = w3 at *
  have T3 := HT2.out.after b3
  obtain ⟨_, m1, _, _, fz⟩ := T3.at_.cells
  rw [epc] at m1
  have hz1 := fz (off + 1)
  obtain ⟨w4, hw4⟩ : ∃ w4, w3.setCell ⟨g, off + 1, none⟩ (.int .i64 ((pc : Int) + 1)) = w4 := ⟨_, rfl⟩
  have hP4 := T3.at_.put_pc ((pc : Int) + 1)
  rw [hw4] at hP4
  have T4 := Lib.hid (T3.trans hP4)
  have row4 : ∀ {t b : Nat} {cs : List Value}, RowAt t b cs w2 → w.heap.size ≤ b → RowAt t b cs w4 := fun hr hx => hP4.row (hr.below b3) (AP.out _ hx).1 (AP.out _ hx).2.1 (AP.out _ hx).2.2
  have rI4 := hP4.row rI (AP.out _ (show w.heap.size ≤ w2.heap.size by have := Y.out; omega)).1 (AP.out _ (show w.heap.size ≤ w2.heap.size by have := Y.out; omega)).2.1 (AP.out _ (show w.heap.size ≤ w2.heap.size by have := Y.out; omega)).2.2
  have R1 := Lib.hid (row4 HR1.out (Nat.le_refl _))
  have R2 := Lib.hid (row4 HR2.out (by have := Y.out; omega))
  have RI := Lib.hid rI4
  have i0 := rI4.cell (k := 0) (by simp)
  have i1 := rI4.cell (k := 1) (by simp)
  simp only [List.getElem_cons_zero, List.getElem_cons_succ] at i0 i1
  have S4 := Lib.hid (show w2.heap.size < w4.heap.size from blk_lt rI4)
  clear T3 hP4 row4 rI4 rI fz HT2 HR1 HR2
  have H := Lib.hid (lsimpleD T4.out.at_ (Nat.le_trans HB.out T4.out.chg.size) R2.out (AP.out _ (show w.heap.size ≤ w1.heap.size by have := Y.out; omega)).1 (AP.out _ (show w.heap.size ≤ w1.heap.size by have := Y.out; omega)).2.1 (AP.out _ (show w.heap.size ≤ w1.heap.size by have := Y.out; omega)).2.2 hs a kd h3 h9 ht hall (by simp))
  have k12 : (kd == 12) = false := beq_eq_false_iff_ne.2 (by omega)
  have k13 : (kd == 13) = false := beq_eq_false_iff_ne.2 (by omega)
  have k14 : (kd == 14) = false := beq_eq_false_iff_ne.2 (by omega)
  have k15 : (kd == 15) = false := beq_eq_false_iff_ne.2 (by omega)
  have k16 : (kd == 16) = false := beq_eq_false_iff_ne.2 (by omega)
  go_wp2_with fail
  (with_reducible refine H.out.mono ?_)
  rintro e w5 ⟨u, rfl, hat, hc, hbk, hnw, hrow⟩
  have T5 := Lib.hid (T4.out.trans_x hat hc hbk hnw (show w.heap.size ≤ w1.heap.size by have := Y.out; omega))
  have NU := Lib.hid (show ob u ≠ some w.heap.size from fun e => by
    rcases hnw _ e with e | e
    · exact (AP.out _ (Nat.le_refl _)).2.2 e
    · have := S4.out; have := Y.out; omega)
  have R15 := Lib.hid (R1.out.chg hc (fun e => by
    rcases e with (e | e | e) | e
    · exact (AP.out _ (Nat.le_refl _)).1 e
    · exact (AP.out _ (Nat.le_refl _)).2.1 e
    · exact (AP.out _ (Nat.le_refl _)).2.2 e
    · have := Y.out; omega))
  have R25 := Lib.hid (show RowAt 95 w1.heap.size [.int .i64 K3, .int .i64 0, .int .i64 (fuel - 1), .int .i64 0, .slice none 0 0, .int .i64 0, .bool false, .int .i64 0, .bool false] w5 from by
    rw [← HK3.out]
    cases hb : (simF ⟨f.fn, (pc : Int) + 1, f.locals, f.stack⟩ ⟨kd, a⟩).2 with
    | true => rw [hb, if_pos rfl] at hrow; exact hrow
    | false => rw [hb, if_neg (by simp)] at hrow; exact hrow)
  clear hat hc hbk hnw hrow i0 i1
  obtain ⟨l0, l1, l2, l3, l4, l5, l6, l7, l8⟩ := row9 R25.out
  have pz := put9 R15.out rfl (.int .i64 K3) (.int .i64 0) (.int .i64 (fuel - 1)) (.int .i64 0) (.slice none 0 0) (.int .i64 0) (.bool false) (.int .i64 0) (.bool false)
  obtain ⟨hE, hRz, hKz⟩ := pz
  have EE := Lib.hid hE
  have HR := Lib.hid (one_end (x := ⟨K3, 0, fuel - 1, 0, [], 0, false, 0, false⟩) (jumps := false) (va := .slice none 0 0) T5.out (innI_nil _ _) (fun _ e => by cases e) hKz (Nat.le_refl _) (AP.out _ (Nat.le_refl _)).1 (AP.out _ (Nat.le_refl _)).2.1 NU.out (fun e => by cases e))
  clear hE hRz hKz
  obtain ⟨q0, q1, q2, q3, q4, q5, q6, q7, q8⟩ := row9 R15.out
  have z_ := fun k => (R15.out).free k
  have z0 := z_ 0
  have z1 := z_ 1
  have z2 := z_ 2
  have z3 := z_ 3
  have z4 := z_ 4
  have z5 := z_ 5
  have z6 := z_ 6
  have z7 := z_ 7
  have z8 := z_ 8
  clear z_
  go_wp2_with fail
  exact bodyPost_ret (v := .tuple #[.agg (excC (⟨K3, 0, fuel - 1, 0, [], 0, false, 0, false⟩) (.slice none 0 0)).toArray, .bool false]) (by simp [results, Tryz.results129, go_sem, excC, EE.out.1, EE.out.2.1, EE.out.2.2.1, EE.out.2.2.2.1, EE.out.2.2.2.2.1, EE.out.2.2.2.2.2.1, EE.out.2.2.2.2.2.2.1, EE.out.2.2.2.2.2.2.2.1, EE.out.2.2.2.2.2.2.2.2]) rfl HR.out

end Go.Proofs.YtjghibdlmmjobaaGreatDoor
