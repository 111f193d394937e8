/- 'eval.Eval', and 'eval.Go' of what may not be. Conditions: the program, the args lie in memory; errors.errorType is laid. 'SameResult', 'Begins'; 'eval.Go' of a state that may not be. Conditions: the lists lie in memory; errors.errorType is laid. 'two', 'small' of the statements on swagelaw8. Conditions: the code lies in memory. -/
import Derived.Test.YtpfgklkdldkajaaDoorGE23
import Derived.Test.YtpfgklkdldkajaaDoorGE14
import Derived.Test.YtpfgklkdldkajaaDoorGE13
import Derived.Test.YtpfgklkdldkajaaDoorGE15
namespace Go.Proofs.YtpfgklkdldkajaaDoor
open Go.RowKit

/-- A call that answers a result of its own, and an int. -/
def EvalE (r : Rst) (code : Int) (w : World) (e : Ending) (w' : World) : Prop :=
  ∃ ov, e = .returned (.tuple #[.agg (resC r ov).toArray, .int .i64 code]) ∧ CRow w' w.heap.size 3 1 ov r.out.length (intsV r.out) ∧ Below w.heap.size w w'
/-- Four cells, written one behind the other. -/
theorem put4 {t b : Nat} {cs : List Value} {w : World} (h : RowAt t b cs w) (hl : cs.length = 4) (c0 c1 c2 c3 : Value) :
    ((w.setCell ⟨b, 0, none⟩ c0).cell? ⟨b, 0, none⟩ = some c0 ∧ ((w.setCell ⟨b, 0, none⟩ c0).setCell ⟨b, 1, none⟩ c1).cell? ⟨b, 1, none⟩ = some c1 ∧ (((w.setCell ⟨b, 0, none⟩ c0).setCell ⟨b, 1, none⟩ c1).setCell ⟨b, 2, none⟩ c2).cell? ⟨b, 2, none⟩ = some c2 ∧ ((((w.setCell ⟨b, 0, none⟩ c0).setCell ⟨b, 1, none⟩ c1).setCell ⟨b, 2, none⟩ c2).setCell ⟨b, 3, none⟩ c3).cell? ⟨b, 3, none⟩ = some c3) ∧
      Chg (fun x => x = b) w ((((w.setCell ⟨b, 0, none⟩ c0).setCell ⟨b, 1, none⟩ c1).setCell ⟨b, 2, none⟩ c2).setCell ⟨b, 3, none⟩ c3) := by
  match cs, hl with
  | [d0, d1, d2, d3], _ =>
    have s0 := h.put 0 c0
    have s1 := s0.put 1 c1
    have s2 := s1.put 2 c2
    have s3 := s2.put 3 c3
    exact ⟨⟨s0.cell (k := 0) (by simp), s1.cell (k := 1) (by simp), s2.cell (k := 2) (by simp), s3.cell (k := 3) (by simp)⟩, ((((Chg.refl (fun x => x = b) w).put (a := ⟨b, 0, none⟩) rfl _).put (a := ⟨b, 1, none⟩) rfl _).put (a := ⟨b, 2, none⟩) rfl _).put (a := ⟨b, 3, none⟩) rfl _⟩
theorem evalN {p : List Fn} {args : List Int} {fuel : Int} (h : startB p args fuel = false) : evalR p args fuel = zeroR ∧ evalC p args fuel = 800 ∧ startC p args fuel = 600 := by
  unfold evalR evalC startC; rw [h]; exact ⟨rfl, rfl, rfl⟩
theorem evalY {p : List Fn} {args : List Int} {fuel : Int} (h : startB p args fuel = true) : evalR p args fuel = resOf (endS p (startS p args fuel)) ∧ evalC p args fuel = 0 ∧ startC p args fuel = 0 := by
  unfold evalR evalC startC; rw [h]; exact ⟨rfl, rfl, rfl⟩
theorem start_state {p : List Fn} {args : List Int} {fuel : Int} (h : startB p args fuel = true) : stateB p (startS p args fuel) = true := by
  have hs : startS p args fuel = ⟨[⟨0, 0, beginL args (localsAt p 0).toNat, []⟩], fuel, [], 0, 0⟩ := by unfold startS; rw [if_pos h]
  unfold startB at h
  simp only [Bool.and_eq_true, decide_eq_true_eq] at h
  obtain ⟨⟨⟨⟨hv, ha⟩, hn⟩, h0⟩, h1⟩ := h
  have hp := verifyOf_packs hv
  have hp1 : 0 < p.length := (packs_len hp).1
  have hfm := fnMay_of (packs_fn hp (k := 0) hp1)
  have hg := heights_good hfm.2.2.2.2 (verifyOf_fn hv hp1)
  have ea : argsAt0 p = p[0].args := by unfold argsAt0; rw [List.getElem?_eq_getElem hp1]
  have el : localsAt p 0 = p[0].locals := by unfold localsAt; rw [show (0 : Int).toNat = 0 from rfl, List.getElem?_eq_getElem hp1]
  have h2 := hfm.2.2.1
  have h3 := hfm.1
  have hle : args.length ≤ (localsAt p 0).toNat := by rw [el]; omega
  rw [hs]
  refine state_mk (l := []) hv h0 h1 (by simp; omega) rfl (by decide) trivial (frameB_mk (k := 0) ?_ (by decide) ?_ (by simp) ?_ rfl)
  · have := heightAt_yes (pc := 0) hv hp1 (by decide)
    show heightAt p (0 : Nat) 0 = 0
    rw [this]
    show ((heightsF p p[0]).1[0]?).getD (-1) = 0
    rw [hg.zero]; rfl
  · simp only
    rw [beginL_len hle, el]; omega
  · simp only [beginL]
    rw [List.all_append, hn]
    simp [List.all_replicate, isNum]
set_option maxRecDepth 100000 in
set_option maxHeartbeats 8000000 in
theorem eval_any (p : List Fn) (Ap A : Option Addr) (cp c : Nat) (args : List Int) (fuel : Int) (w : World) (hl : Laid w) (hr : ReadsF w Ap p) (ha : ReadsI w A args) :
    Calls Tryd.prog 26 #[.agg #[.slice Ap p.length cp], .slice A args.length c, .int .i64 fuel] w (EvalE (evalR p args fuel) (evalC p args fuel) w) := by
  obtain ⟨w1, hw1⟩ : ∃ w1, w.alloc (.cells #[.slice Ap p.length cp] 24) = w1 := ⟨_, rfl⟩
  obtain ⟨w2, hw2⟩ : ∃ w2, w1.alloc (.cells #[.int .i64 0, .int .i64 0, .slice none 0 0, .int .i64 0] 61) = w2 := ⟨_, rfl⟩
  have b1 : Below w.heap.size w w1 := hw1 ▸ below_alloc (Below.refl _ _) _
  have b2 : Below w1.heap.size w1 w2 := hw2 ▸ below_alloc (Below.refl _ _) _
  have y1 : w1.heap.size = w.heap.size + 1 := by rw [← hw1]; simp
  have y2 : w2.heap.size = w.heap.size + 2 := by rw [← hw2]; simp [y1]
  have r1 : RowAt 24 w.heap.size [.slice Ap p.length cp] w2 := (hw1 ▸ RowAt.new _ _ w : RowAt 24 w.heap.size [.slice Ap p.length cp] w1).below b2
  have r2 : RowAt 61 w1.heap.size [.int .i64 0, .int .i64 0, .slice none 0 0, .int .i64 0] w2 := hw2 ▸ RowAt.new _ _ w1
  have b02 := below_trans b1 b2
  have HS := Lib.hid (start_any p Ap A cp c args fuel w2 (hl.below b02) (hr.below b02) (ha.below b02))
  have k1 := row_cell r1
  have R1 := Lib.hid r1
  have R2 := Lib.hid r2
  have B2 := Lib.hid b02
  have Y := Lib.hid (And.intro y1 y2)
  have HR := Lib.hid (hr.below b02)
  have hna := ha.1
  clear hl hr ha b1 b2 y1 y2 r1 r2 b02
  go_enter Tryd.func26, Tryd.ntmps26
  go_wp2_with fail
  (with_reducible refine HS.out.mono ?_)
  rintro e w3 ⟨fv, ov, vss, rfl, hO, hB⟩
  obtain ⟨oo, oc, eo, _, _⟩ := hO.out.shape
  obtain ⟨ff, fc, ef, _, _⟩ := hO.fr.row.shape
  subst eo ef
  unfold sttV
  obtain ⟨st, hst⟩ : ∃ st, startS p args fuel = st := ⟨_, rfl⟩
  rw [hst] at hO ⊢
  obtain ⟨w4, hw4⟩ : ∃ w4, w3.alloc (.cells #[.slice ff st.frames.length fc, .int .i64 st.fuel, .slice oo st.out.length oc, .int .i64 st.done, .int .i64 st.value] 74) = w4 := ⟨_, rfl⟩
  have b4 : Below w3.heap.size w3 w4 := hw4 ▸ below_alloc (Below.refl _ _) _
  have rS : RowAt 74 w3.heap.size (sttC st (.slice ff st.frames.length fc) (.slice oo st.out.length oc)) w4 := hw4 ▸ RowAt.new _ _ w3
  have hSt : StAt w4 w2.heap.size w3.heap.size st (.slice ff st.frames.length fc) (.slice oo st.out.length oc) vss := ⟨rS, hO.below b4, fun ⟨x, hx, e⟩ => Nat.lt_irrefl _ (OwnG.lo hO.fr x hx _ e).2, fun e => Nat.lt_irrefl _ (hO.out.in_ _ e).2⟩
  have hB4 := below_trans hB b4
  have r3 := R2.out.below hB4
  obtain ⟨c0, c1, c2, c3⟩ : w4.cell? ⟨w1.heap.size, 0, none⟩ = some (.int .i64 0) ∧ w4.cell? ⟨w1.heap.size, 1, none⟩ = some (.int .i64 0) ∧ w4.cell? ⟨w1.heap.size, 2, none⟩ = some (.slice none 0 0) ∧ w4.cell? ⟨w1.heap.size, 3, none⟩ = some (.int .i64 0) := ⟨r3.cell (k := 0) (by simp), r3.cell (k := 1) (by simp), r3.cell (k := 2) (by simp), r3.cell (k := 3) (by simp)⟩
  have z0 := r3.free 0
  have z1 := r3.free 1
  have z2 := r3.free 2
  have z3 := r3.free 3
  have HST := Lib.hid hSt
  have B4 := Lib.hid (below_trans B2.out hB4)
  have B24 := Lib.hid hB4
  have B23 := Lib.hid hB
  have R3 := Lib.hid r3
  have K1 := Lib.hid (R1.out.below hB4)
  have HQ := Lib.hid hst
  clear hO hB r3 k1 hw1 hw2 hSt hB4 b4 rS hst
  cases hb : startB p args fuel with
  | false =>
    obtain ⟨n1, n2, n3⟩ := evalN hb
    rw [n3]
    have pz := put4 R3.out rfl (.int .i64 0) (.int .i64 0) (.slice none 0 0) (.int .i64 0)
    have EE := Lib.hid pz.1
    have FIN := Lib.hid (show EvalE (evalR p args fuel) (evalC p args fuel) w (.returned (.tuple #[.agg #[.int .i64 0, .int .i64 0, .slice none 0 0, .int .i64 0], .int .i64 800])) _ from by
      rw [n1, n2]
      exact ⟨.slice none 0 0, rfl, CRow.nil _ _ _ _, Chg.below B4.out pz.2 (fun b e => by have := Y.out; omega)⟩)
    clear pz hb n1 n2 n3
    go_wp2_with fail
    exact bodyPost_ret (v := .tuple #[.agg #[.int .i64 0, .int .i64 0, .slice none 0 0, .int .i64 0], .int .i64 800]) (by simp [results, Tryd.results26, go_sem, EE.out.1, EE.out.2.1, EE.out.2.2.1, EE.out.2.2.2]) rfl FIN.out
  | true =>
    obtain ⟨n1, n2, n3⟩ := evalY hb
    have hss := start_state hb
    rw [n3]
    rw [HQ.out] at hss n1
    have N := Lib.hid (And.intro n1 n2)
    have H := Lib.hid (lend_any (W0 := w2) (P := ⟨w.heap.size, 0, none⟩) (cp := cp) HST.out (by have := B24.out.size; omega) (Nat.le_refl _) B23.out.size B24.out (row_cell R1.out) HR.out hss)
    clear hb n1 n2 n3 hss
    go_wp2_with fail
    (with_reducible refine H.out.mono ?_)
    rintro e w5 ⟨ov', rfl, hrow, hB5⟩
    obtain ⟨vo, vc, ev, _, _⟩ := hrow.shape
    subst ev
    have r5 := R2.out.below hB5
    obtain ⟨c0, c1, c2, c3⟩ : w5.cell? ⟨w1.heap.size, 0, none⟩ = some (.int .i64 0) ∧ w5.cell? ⟨w1.heap.size, 1, none⟩ = some (.int .i64 0) ∧ w5.cell? ⟨w1.heap.size, 2, none⟩ = some (.slice none 0 0) ∧ w5.cell? ⟨w1.heap.size, 3, none⟩ = some (.int .i64 0) := ⟨r5.cell (k := 0) (by simp), r5.cell (k := 1) (by simp), r5.cell (k := 2) (by simp), r5.cell (k := 3) (by simp)⟩
    have z0 := r5.free 0
    have z1 := r5.free 1
    have z2 := r5.free 2
    have z3 := r5.free 3
    have pz := put4 r5 rfl (.int .i64 (endS p st).done) (.int .i64 (endS p st).value) (.slice vo (endS p st).out.length vc) (.int .i64 (endS p st).fuel)
    have EE := Lib.hid pz.1
    have FIN := Lib.hid (show EvalE (evalR p args fuel) (evalC p args fuel) w (.returned (.tuple #[.agg #[.int .i64 (endS p st).done, .int .i64 (endS p st).value, .slice vo (endS p st).out.length vc, .int .i64 (endS p st).fuel], .int .i64 0])) _ from by
      rw [N.out.1, N.out.2]
      exact ⟨.slice vo (endS p st).out.length vc, rfl, (CRow.mono hrow B2.out.size).chg pz.2 (fun b hb e => by have := (hrow.in_ b hb).1; have := Y.out; omega), Chg.below (below_trans B2.out hB5) pz.2 (fun b e => by have := Y.out; omega)⟩)
    clear pz hrow hB5 r5
    simp only [resC, resOf]
    go_wp2_with fail
    exact bodyPost_ret (v := .tuple #[.agg #[.int .i64 (endS p st).done, .int .i64 (endS p st).value, .slice vo (endS p st).out.length vc, .int .i64 (endS p st).fuel], .int .i64 0]) (by simp [results, Tryd.results26, go_sem, EE.out.1, EE.out.2.1, EE.out.2.2.1, EE.out.2.2.2]) rfl FIN.out
end Go.Proofs.YtpfgklkdldkajaaDoor

namespace Go.Proofs.YtpfgklkdldkajaaDoor
open Go.RowKit

instance : DecidableEq Rst := fun x y => if h : x.done = y.done ∧ x.value = y.value ∧ x.out = y.out ∧ x.fuel = y.fuel then isTrue (by cases x; cases y; obtain ⟨h1, h2, h3, h4⟩ := h; simp only at h1 h2 h3 h4; rw [h1, h2, h3, h4]) else isFalse (fun e => h (by rw [e]; exact ⟨rfl, rfl, rfl, rfl⟩))
def resV (r : Rst) (A : Option Addr) (c : Nat) : Value := .agg #[.int .i64 r.done, .int .i64 r.value, .slice A r.out.length c, .int .i64 r.fuel]
set_option maxRecDepth 100000 in
set_option maxHeartbeats 4000000 in
theorem sameResult_any (x y : Rst) (A B : Option Addr) (c d : Nat) (w : World) (hx : ReadsI w A x.out) (hy : ReadsI w B y.out) :
    Calls Tryd.prog 28 #[resV x A c, resV y B d] w (Ret (.bool (decide (x = y))) w) := by
  obtain ⟨xd, xv, xo, xf⟩ := x
  obtain ⟨yd, yv, yo, yf⟩ := y
  unfold resV
  simp only at hx hy ⊢
  obtain ⟨w1, hw1⟩ : ∃ w1, w.alloc (.cells #[.int .i64 xd, .int .i64 xv, .slice A xo.length c, .int .i64 xf] 61) = w1 := ⟨_, rfl⟩
  obtain ⟨w2, hw2⟩ : ∃ w2, w1.alloc (.cells #[.int .i64 yd, .int .i64 yv, .slice B yo.length d, .int .i64 yf] 61) = w2 := ⟨_, rfl⟩
  have b1 : Below w.heap.size w w1 := hw1 ▸ below_alloc (Below.refl _ _) _
  have b2 : Below w1.heap.size w1 w2 := hw2 ▸ below_alloc (Below.refl _ _) _
  have b12 := below_trans b1 b2
  have r1 : RowAt 61 w.heap.size [.int .i64 xd, .int .i64 xv, .slice A xo.length c, .int .i64 xf] w2 := (hw1 ▸ RowAt.new _ _ w : RowAt 61 w.heap.size _ w1).below b2
  have r2 : RowAt 61 w1.heap.size [.int .i64 yd, .int .i64 yv, .slice B yo.length d, .int .i64 yf] w2 := hw2 ▸ RowAt.new _ _ w1
  have k0 := r1.cell (k := 0) (by simp)
  have k1 := r1.cell (k := 1) (by simp)
  have k2 := r1.cell (k := 2) (by simp)
  have k3 := r1.cell (k := 3) (by simp)
  have l0 := r2.cell (k := 0) (by simp)
  have l1 := r2.cell (k := 1) (by simp)
  have l2 := r2.cell (k := 2) (by simp)
  have l3 := r2.cell (k := 3) (by simp)
  simp only [List.getElem_cons_succ, List.getElem_cons_zero] at k0 k1 k2 k3 l0 l1 l2 l3
  have HO := Lib.hid (sameInts_any A B c d xo yo w2 (hx.below b12) (hy.below b12))
  have HB := Lib.hid b12
  have HE := Lib.hid (show decide ((⟨xd, xv, xo, xf⟩ : Rst) = ⟨yd, yv, yo, yf⟩) = (decide (xd = yd) && decide (xv = yv) && decide (xf = yf) && decide (xo = yo)) by
    rw [Bool.eq_iff_iff]; simp only [decide_eq_true_eq, Bool.and_eq_true, Rst.mk.injEq]
    constructor
    · rintro ⟨a, b, c, d⟩; exact ⟨⟨⟨a, b⟩, d⟩, c⟩
    · rintro ⟨⟨⟨a, b⟩, d⟩, c⟩; exact ⟨a, b, c, d⟩)
  rw [HE.out]
  obtain ⟨bo, ebo⟩ : ∃ bo, decide (xo = yo) = bo := ⟨_, rfl⟩
  rw [ebo] at HO ⊢
  clear b1 b2 b12 r1 r2 hx hy HE ebo
  go_enter Tryd.func28, Tryd.ntmps28
  go_wp2_with (go_at_call 16; refine HO.out.mono ?_; rintro e w' ⟨rfl, n, rfl⟩)
  all_goals go_ret
  all_goals refine ret_tail ?_ HB.out (by first | exact Below.refl _ _ | exact below_drew (Below.refl _ _) _ | (rw [drewN_two]; exact below_drew (Below.refl _ _) _))
  all_goals clear HO HB k0 k1 k2 k3 l0 l1 l2 l3
  all_goals first | (simp_all; done) | (cases bo <;> simp_all [beq_dec]; done)
/-- Is one list a beginning of the other? -/
def beginsB (xs ys : List Int) : Bool := decide (xs.length ≤ ys.length) && decide (xs = ys.take xs.length)
theorem reads_take {w : World} {A : Option Addr} {xs : List Int} {m : Nat} (h : ReadsI w A xs) : ReadsI w A (xs.take m) :=
  ⟨by rw [List.length_take]; have := h.1; omega, fun h0 => by
    rw [List.length_take] at h0
    obtain ⟨ad, e, hc⟩ := h.2 (by omega)
    exact ⟨ad, e, fun j hj => by rw [List.length_take] at hj; rw [List.getElem_take]; exact hc j (by omega)⟩⟩
set_option maxRecDepth 100000 in
set_option maxHeartbeats 4000000 in
theorem begins_any (xs ys : List Int) (A B : Option Addr) (c d : Nat) (w : World) (hx : ReadsI w A xs) (hy : ReadsI w B ys) (hd : ys.length ≤ d) :
    Calls Tryd.prog 27 #[.slice A xs.length c, .slice B ys.length d] w (Ret (.bool (beginsB xs ys)) w) := by
  have n1 := hx.1
  have n2 := hy.1
  by_cases hle : xs.length ≤ ys.length
  · have hlt : (ys.take xs.length).length = xs.length := by rw [List.length_take]; omega
    have H := sameInts_any A B c d xs (ys.take xs.length) w hx (reads_take hy)
    rw [hlt] at H
    have HO := Lib.hid H
    obtain ⟨i, hi, _⟩ := info_parts info_int
    have RI := run_initA (P := Tryd.prog) 32 3 Tryd.underlying32 i hi B ys.length d xs.length (by omega)
    have d1 : decide (ys.length < xs.length) = false := by simp; omega
    have d2 : decide ((ys.length : Int) < (xs.length : Int)) = false := by simp; omega
    have HE := Lib.hid (show beginsB xs ys = decide (xs = ys.take xs.length) by unfold beginsB; rw [decide_eq_true hle]; rfl)
    obtain ⟨bo, ebo⟩ : ∃ bo, decide (xs = ys.take xs.length) = bo := ⟨_, rfl⟩
    rw [ebo] at HO HE
    clear hx hy H hi hle ebo hlt
    go_enter Tryd.func27, Tryd.ntmps27
    go_wp2_with (go_at_call 16; refine HO.out.mono ?_; rintro e w' ⟨rfl, n, rfl⟩)
    go_ret
    exact ret_tail (by rw [HE.out]; rfl) (Below.refl _ _) (below_drew (Below.refl _ _) _)
  · have d1 : decide (ys.length < xs.length) = true := by simp; omega
    have d2 : decide ((ys.length : Int) < (xs.length : Int)) = true := by simp; omega
    have HE := Lib.hid (show beginsB xs ys = false by unfold beginsB; rw [decide_eq_false hle]; rfl)
    clear hx hy hle
    go_enter Tryd.func27, Tryd.ntmps27
    go_wp2_with fail
    go_ret
    exact ret_tail (by rw [HE.out]; rfl) (Below.refl _ _) (Below.refl _ _)
set_option maxRecDepth 100000 in
set_option maxHeartbeats 4000000 in
/-- A state that may not be is refused. -/
theorem go_no (p : List Fn) (Ap : Option Addr) (cp : Nat) (w : World) (hl : Laid w) (hr : ReadsF w Ap p) (hn : stateB p ⟨[], 0, [], 0, 0⟩ = false) :
    Calls Tryd.prog 33 #[.agg #[.slice Ap p.length cp], .agg #[.slice none 0 0, .int .i64 0, .slice none 0 0, .int .i64 0, .int .i64 0]] w (EvalE zeroR 800 w) := by
  obtain ⟨w1, hw1⟩ : ∃ w1, w.alloc (.cells #[.slice Ap p.length cp] 24) = w1 := ⟨_, rfl⟩
  obtain ⟨w2, hw2⟩ : ∃ w2, w1.alloc (.cells #[.slice none 0 0, .int .i64 0, .slice none 0 0, .int .i64 0, .int .i64 0] 74) = w2 := ⟨_, rfl⟩
  obtain ⟨w3, hw3⟩ : ∃ w3, w2.alloc (.cells #[.int .i64 0, .int .i64 0, .slice none 0 0, .int .i64 0] 61) = w3 := ⟨_, rfl⟩
  have b1 : Below w.heap.size w w1 := hw1 ▸ below_alloc (Below.refl _ _) _
  have b2 : Below w1.heap.size w1 w2 := hw2 ▸ below_alloc (Below.refl _ _) _
  have b3 : Below w2.heap.size w2 w3 := hw3 ▸ below_alloc (Below.refl _ _) _
  have b03 := below_trans (below_trans b1 b2) b3
  have y1 : w1.heap.size = w.heap.size + 1 := by rw [← hw1]; simp
  have y2 : w2.heap.size = w.heap.size + 2 := by rw [← hw2]; simp [y1]
  have r1 : RowAt 24 w.heap.size [.slice Ap p.length cp] w3 := (hw1 ▸ RowAt.new _ _ w : RowAt 24 w.heap.size _ w1).below (below_trans b2 b3)
  have r2 : RowAt 74 w1.heap.size [.slice none 0 0, .int .i64 0, .slice none 0 0, .int .i64 0, .int .i64 0] w3 := (hw2 ▸ RowAt.new _ _ w1 : RowAt 74 w1.heap.size _ w2).below b3
  have r3 : RowAt 61 w2.heap.size [.int .i64 0, .int .i64 0, .slice none 0 0, .int .i64 0] w3 := hw3 ▸ RowAt.new _ _ w2
  have k1 := row_cell r1
  have s0 := r2.cell (k := 0) (by simp)
  have s1 := r2.cell (k := 1) (by simp)
  have s2 := r2.cell (k := 2) (by simp)
  have s3 := r2.cell (k := 3) (by simp)
  have s4 := r2.cell (k := 4) (by simp)
  simp only [List.getElem_cons_zero, List.getElem_cons_succ] at s0 s1 s2 s3 s4
  have HS := Lib.hid (show Calls Tryd.prog 58 #[.agg #[.slice Ap p.length cp], .agg #[.slice none 0 0, .int .i64 0, .slice none 0 0, .int .i64 0, .int .i64 0]] w3 (Ret (.bool false) w3) by
    have := state_any p Ap none none cp 0 0 ⟨[], 0, [], 0, 0⟩ w3 (hl.below b03) (hr.below b03) ⟨by simp, fun h => absurd h (by simp)⟩ (by simp) ⟨by simp, fun h => absurd h (by simp)⟩
    rw [hn] at this
    exact this)
  have R3 := Lib.hid r3
  have B3 := Lib.hid b03
  have Y := Lib.hid y2
  clear hl hr hn b1 b2 b3 b03 r1 r2 r3 y1 y2
  go_enter Tryd.func33, Tryd.ntmps33
  go_wp2_with fail
  (with_reducible refine HS.out.mono ?_)
  rintro e w4 ⟨rfl, hB⟩
  have r4 := R3.out.below hB
  obtain ⟨c0, c1, c2, c3⟩ : w4.cell? ⟨w2.heap.size, 0, none⟩ = some (.int .i64 0) ∧ w4.cell? ⟨w2.heap.size, 1, none⟩ = some (.int .i64 0) ∧ w4.cell? ⟨w2.heap.size, 2, none⟩ = some (.slice none 0 0) ∧ w4.cell? ⟨w2.heap.size, 3, none⟩ = some (.int .i64 0) := ⟨r4.cell (k := 0) (by simp), r4.cell (k := 1) (by simp), r4.cell (k := 2) (by simp), r4.cell (k := 3) (by simp)⟩
  have z0 := r4.free 0
  have z1 := r4.free 1
  have z2 := r4.free 2
  have z3 := r4.free 3
  have pz := put4 r4 rfl (.int .i64 0) (.int .i64 0) (.slice none 0 0) (.int .i64 0)
  have EE := Lib.hid pz.1
  have FIN := Lib.hid (show EvalE zeroR 800 w (.returned (.tuple #[.agg #[.int .i64 0, .int .i64 0, .slice none 0 0, .int .i64 0], .int .i64 800])) _ from ⟨.slice none 0 0, rfl, CRow.nil _ _ _ _, Chg.below (below_trans B3.out hB) pz.2 (fun b e => by have := Y.out; omega)⟩)
  clear pz hB r4 hw1 hw2 hw3 k1 s0 s1 s2 s3 s4
  go_wp2_with fail
  exact bodyPost_ret (v := .tuple #[.agg #[.int .i64 0, .int .i64 0, .slice none 0 0, .int .i64 0], .int .i64 800]) (by simp [results, Tryd.results33, go_sem, EE.out.1, EE.out.2.1, EE.out.2.2.1, EE.out.2.2.2]) rfl FIN.out
end Go.Proofs.YtpfgklkdldkajaaDoor

namespace Go.Proofs.YtpfgklkdldkajaaDoor
open Go.RowKit

set_option maxRecDepth 100000 in
set_option maxHeartbeats 1000000 in
theorem two_any (w : World) : Calls Tryd.prog 54 #[] w (ProgL twoP 2 w) := by
  have HR := Lib.hid (two_reads w)
  have HB := Lib.hid (allocsL_below (twoO w.heap.size) w)
  go_enter Tryd.func54, Tryd.ntmps54
  go_wp2_with fail
  exact bodyPost_ret (v := .agg #[.slice (some ⟨w.heap.size + 3, 0, none⟩) 2 2]) (by simp [results, Tryd.results54, go_sem]) rfl ⟨_, rfl, HR.out, HB.out⟩
set_option maxRecDepth 100000 in
set_option maxHeartbeats 1000000 in
theorem small_any (a l : Int) (A : Option Addr) (c : Nat) (code : List Ins) (w : World) (hr : ReadsC w A code) :
    Calls Tryd.prog 29 #[.int .i64 a, .int .i64 l, .slice A code.length c] w (ProgL [⟨a, l, code⟩] 1 w) := by
  have HR := Lib.hid (small_reads a l A c code w hr)
  have HB := Lib.hid (allocsL_below [.cells #[.slice (some ⟨w.heap.size + 1, 0, none⟩) 1 1] 24, .cells #[.int .i64 a, .int .i64 l, .slice A code.length c] 31] w)
  clear hr
  go_enter Tryd.func29, Tryd.ntmps29
  go_wp2_with fail
  exact bodyPost_ret (v := .agg #[.slice (some ⟨w.heap.size + 1, 0, none⟩) 1 1]) (by simp [results, Tryd.results29, go_sem]) rfl ⟨_, rfl, HR.out, HB.out⟩
end Go.Proofs.YtpfgklkdldkajaaDoor
