/- The document's 'Eval'. Conditions: the program, the args lie in memory. -/
import Derived.Test.YtpfgklkdldkajaaGreatDoorRGo
import Derived.Test.YtpfgklkdldkajaaGreatDoorGZ27
namespace Go.Proofs.YtpfgklkdldkajaaGreatDoor
open Go.RowKit

set_option maxRecDepth 100000 in
set_option maxHeartbeats 8000000 in
theorem reval_any (p : List Fn) (Ap A : Option Addr) (cp c : Nat) (args : List Int) (fuel : Int) (w : World) (hr : ReadsF w Ap p) (ha : ReadsI w A args) :
    Calls Tryz.prog 37 #[.agg #[.slice Ap p.length cp], .slice A args.length c, .int .i64 fuel] w (EvalE (evalR p args fuel) (evalC p args fuel) w) := by
  obtain ⟨w1, hw1⟩ : ∃ w1, w.alloc (.cells #[.slice Ap p.length cp] 24) = w1 := ⟨_, rfl⟩
  obtain ⟨w2, hw2⟩ : ∃ w2, w1.alloc (.cells #[.int .i64 0, .int .i64 0, .slice none 0 0, .int .i64 0] 74) = w2 := ⟨_, rfl⟩
  have b1 : Below w.heap.size w w1 := hw1 ▸ below_alloc (Below.refl _ _) _
  have b2 : Below w1.heap.size w1 w2 := hw2 ▸ below_alloc (Below.refl _ _) _
  have y1 : w1.heap.size = w.heap.size + 1 := by rw [← hw1]; simp
  have y2 : w2.heap.size = w.heap.size + 2 := by rw [← hw2]; simp [y1]
  have r1 : RowAt 24 w.heap.size [.slice Ap p.length cp] w2 := (hw1 ▸ RowAt.new _ _ w : RowAt 24 w.heap.size [.slice Ap p.length cp] w1).below b2
  have r2 : RowAt 74 w1.heap.size [.int .i64 0, .int .i64 0, .slice none 0 0, .int .i64 0] w2 := hw2 ▸ RowAt.new _ _ w1
  have b02 := below_trans b1 b2
  have HS := Lib.hid (rstart_any p Ap A cp c args fuel w2 (hr.below b02) (ha.below b02))
  have k1 := row_cell r1
  have R1 := Lib.hid r1
  have R2 := Lib.hid r2
  have B2 := Lib.hid b02
  have Y := Lib.hid (And.intro y1 y2)
  have HR := Lib.hid (hr.below b02)
  have hna := ha.1
  clear hr ha b1 b2 y1 y2 r1 r2 b02
  go_enter Tryz.func37, Tryz.ntmps37
  go_wp2_with fail
  (with_reducible refine HS.out.mono ?_)
  rintro e w3 ⟨fv, ov, vss, rfl, hO, hB⟩
  obtain ⟨oo, oc, eo, _, _⟩ := hO.out.shape
  obtain ⟨ff, fc, ef, _, _⟩ := hO.fr.row.shape
  subst eo ef
  unfold sttV
  obtain ⟨st, hst⟩ : ∃ st, startS p args fuel = st := ⟨_, rfl⟩
  rw [hst] at hO ⊢
  obtain ⟨w4, hw4⟩ : ∃ w4, w3.alloc (.cells #[.slice ff st.frames.length fc, .int .i64 st.fuel, .slice oo st.out.length oc, .int .i64 st.done, .int .i64 st.value] 47) = w4 := ⟨_, rfl⟩
  have b4 : Below w3.heap.size w3 w4 := hw4 ▸ below_alloc (Below.refl _ _) _
  have rS : RowAt 47 w3.heap.size (sttC st (.slice ff st.frames.length fc) (.slice oo st.out.length oc)) w4 := hw4 ▸ RowAt.new _ _ w3
  have hSt : StAt w4 w2.heap.size w3.heap.size st (.slice ff st.frames.length fc) (.slice oo st.out.length oc) vss := ⟨rS, hO.below b4, fun ⟨x, hx, e⟩ => Nat.lt_irrefl _ (OwnG.lo hO.fr x hx _ e).2, fun e => Nat.lt_irrefl _ (hO.out.in_ _ e).2⟩
  have hB4 := below_trans hB b4
  have r3 := R2.out.below hB4
  obtain ⟨c0, c1, c2, c3⟩ : w4.cell? ⟨w1.heap.size, 0, none⟩ = some (.int .i64 0) ∧ w4.cell? ⟨w1.heap.size, 1, none⟩ = some (.int .i64 0) ∧ w4.cell? ⟨w1.heap.size, 2, none⟩ = some (.slice none 0 0) ∧ w4.cell? ⟨w1.heap.size, 3, none⟩ = some (.int .i64 0) := ⟨r3.cell (k := 0) (by simp), r3.cell (k := 1) (by simp), r3.cell (k := 2) (by simp), r3.cell (k := 3) (by simp)⟩
  have z0 := r3.free 0
  have z1 := r3.free 1
  have z2 := r3.free 2
  have z3 := r3.free 3
  have HST := Lib.hid hSt
  have HRS := Lib.hid (show ReadsS w4 st ff oo by
    obtain ⟨_, _, _, _, e1, e2, _, hrs⟩ := hSt.own.reads
    cases e1; cases e2; exact hrs)
  have B4 := Lib.hid (below_trans B2.out hB4)
  have B24 := Lib.hid hB4
  have B23 := Lib.hid hB
  have R3 := Lib.hid r3
  have K1 := Lib.hid (R1.out.below hB4)
  have HQ := Lib.hid hst
  clear hO hB r3 k1 hw1 hw2 hSt hB4 b4 rS hst
  cases hb : startB p args fuel with
  | false =>
    obtain ⟨n1, n2, n3⟩ := evalN hb
    rw [n3]
    have pz := put4 R3.out rfl (.int .i64 0) (.int .i64 0) (.slice none 0 0) (.int .i64 0)
    have EE := Lib.hid pz.1
    have FIN := Lib.hid (show EvalE (evalR p args fuel) (evalC p args fuel) w (.returned (.tuple #[.agg #[.int .i64 0, .int .i64 0, .slice none 0 0, .int .i64 0], .int .i64 800])) _ from by
      rw [n1, n2]
      exact ⟨.slice none 0 0, rfl, CRow.nil _ _ _ _, Chg.below B4.out pz.2 (fun b e => by have := Y.out; omega)⟩)
    clear pz hb n1 n2 n3
    go_wp2_with fail
    exact bodyPost_ret (v := .tuple #[.agg #[.int .i64 0, .int .i64 0, .slice none 0 0, .int .i64 0], .int .i64 800]) (by simp [results, Tryz.results37, go_sem, EE.out.1, EE.out.2.1, EE.out.2.2.1, EE.out.2.2.2]) rfl FIN.out
  | true =>
    obtain ⟨n1, n2, n3⟩ := evalY hb
    have hss := start_state hb
    rw [n3]
    rw [HQ.out] at hss n1
    have hg := goY hss
    have H := rgo_any p Ap ff oo cp fc oc st w4 (HR.out.below B24.out) HRS.out
    rw [hg.1, hg.2] at H
    unfold sttV at H
    replace H := Lib.hid H
    have N := Lib.hid (And.intro n1 n2)
    obtain ⟨a0, a1, a2, a3, a4, _⟩ := HST.out.cells
    have k1 := row_cell K1.out
    clear hb n1 n2 n3 hss hg c0 c1 c2 c3 z0 z1 z2 z3
    go_wp2_with fail
    (with_reducible refine H.out.mono ?_)
    rintro e w5 ⟨ov', rfl, hrow, hB5⟩
    obtain ⟨vo, vc, ev, _, _⟩ := hrow.shape
    subst ev
    have r5 := R3.out.below hB5
    obtain ⟨c0, c1, c2, c3⟩ : w5.cell? ⟨w1.heap.size, 0, none⟩ = some (.int .i64 0) ∧ w5.cell? ⟨w1.heap.size, 1, none⟩ = some (.int .i64 0) ∧ w5.cell? ⟨w1.heap.size, 2, none⟩ = some (.slice none 0 0) ∧ w5.cell? ⟨w1.heap.size, 3, none⟩ = some (.int .i64 0) := ⟨r5.cell (k := 0) (by simp), r5.cell (k := 1) (by simp), r5.cell (k := 2) (by simp), r5.cell (k := 3) (by simp)⟩
    have z0 := r5.free 0
    have z1 := r5.free 1
    have z2 := r5.free 2
    have z3 := r5.free 3
    have pz := put4 r5 rfl (.int .i64 (endS p st).done) (.int .i64 (endS p st).value) (.slice vo (endS p st).out.length vc) (.int .i64 (endS p st).fuel)
    have EE := Lib.hid pz.1
    have FIN := Lib.hid (show EvalE (evalR p args fuel) (evalC p args fuel) w (.returned (.tuple #[.agg #[.int .i64 (endS p st).done, .int .i64 (endS p st).value, .slice vo (endS p st).out.length vc, .int .i64 (endS p st).fuel], .int .i64 0])) _ from by
      rw [N.out.1, N.out.2]
      exact ⟨.slice vo (endS p st).out.length vc, rfl, (CRow.mono hrow B4.out.size).chg pz.2 (fun b hb e => by have := (hrow.in_ b hb).1; have := Y.out; have := B24.out.size; omega), Chg.below (below_trans B4.out hB5) pz.2 (fun b e => by have := Y.out; omega)⟩)
    clear pz hrow hB5 r5 a0 a1 a2 a3 a4 k1
    simp only [resC, resOf]
    go_wp2_with fail
    exact bodyPost_ret (v := .tuple #[.agg #[.int .i64 (endS p st).done, .int .i64 (endS p st).value, .slice vo (endS p st).out.length vc, .int .i64 (endS p st).fuel], .int .i64 0]) (by simp [results, Tryz.results37, go_sem, EE.out.1, EE.out.2.1, EE.out.2.2.1, EE.out.2.2.2]) rfl FIN.out
end Go.Proofs.YtpfgklkdldkajaaGreatDoor
