/- The document's 'Go'. Conditions: the program, the state lie in memory. -/
import Derived.Test.YtpfgklkdldkajaaGreatDoorRCopyS
import Derived.Test.YtpfgklkdldkajaaGreatDoorGZ24
import Derived.Test.YtpfgklkdldkajaaGreatDoorGZ28
namespace Go.Proofs.YtpfgklkdldkajaaGreatDoor
open Go.RowKit

/-- A state of the call's own, put down at a place that is none of its blocks. -/
theorem stAt_store {w : World} {base sb : Nat} {s : Stt} {cs : List Value} {fv ov : Value} {vss : List (List Value)} (h : OwnS w base s fv ov vss) (hr : RowAt 47 sb cs w) (hl : cs.length = 5) (hb : sb < base) :
    StAt (((((w.setCell ⟨sb, 0, none⟩ fv).setCell ⟨sb, 1, none⟩ (.int .i64 s.fuel)).setCell ⟨sb, 2, none⟩ ov).setCell ⟨sb, 3, none⟩ (.int .i64 s.done)).setCell ⟨sb, 4, none⟩ (.int .i64 s.value)) base sb s fv ov vss ∧
      Chg (fun b => b = sb) w (((((w.setCell ⟨sb, 0, none⟩ fv).setCell ⟨sb, 1, none⟩ (.int .i64 s.fuel)).setCell ⟨sb, 2, none⟩ ov).setCell ⟨sb, 3, none⟩ (.int .i64 s.done)).setCell ⟨sb, 4, none⟩ (.int .i64 s.value)) := by
  have hk := (put5s hr hl fv (.int .i64 s.fuel) ov (.int .i64 s.done) (.int .i64 s.value)).2
  match cs, hl with
  | [d0, d1, d2, d3, d4], _ =>
    have hp := ((((hr.put 0 fv).put 1 (.int .i64 s.fuel)).put 2 ov).put 3 (.int .i64 s.done)).put 4 (.int .i64 s.value)
    exact ⟨⟨hp, h.chg hk (fun b e => by omega), fun ⟨u, hu, e⟩ => by have := (OwnG.lo h.fr u hu _ e).1; omega, fun e => by have := (h.out.in_ _ e).1; omega⟩, hk⟩
set_option maxRecDepth 100000 in
set_option maxHeartbeats 8000000 in
theorem rgo_any (p : List Fn) (Ap A Ao : Option Addr) (cp c co : Nat) (s : Stt) (w : World) (hr : ReadsF w Ap p) (hs : ReadsS w s A Ao) :
    Calls Tryz.prog 39 #[.agg #[.slice Ap p.length cp], sttV s (.slice A s.frames.length c) (.slice Ao s.out.length co)] w (EvalE (goR p s) (goC p s) w) := by
  unfold sttV
  obtain ⟨w1, hw1⟩ : ∃ w1, w.alloc (.cells #[.slice Ap p.length cp] 24) = w1 := ⟨_, rfl⟩
  obtain ⟨w2, hw2⟩ : ∃ w2, w1.alloc (.cells #[.slice A s.frames.length c, .int .i64 s.fuel, .slice Ao s.out.length co, .int .i64 s.done, .int .i64 s.value] 47) = w2 := ⟨_, rfl⟩
  obtain ⟨w3, hw3⟩ : ∃ w3, w2.alloc (.cells #[.int .i64 0, .int .i64 0, .slice none 0 0, .int .i64 0] 74) = w3 := ⟨_, rfl⟩
  have b1 : Below w.heap.size w w1 := hw1 ▸ below_alloc (Below.refl _ _) _
  have b2 : Below w1.heap.size w1 w2 := hw2 ▸ below_alloc (Below.refl _ _) _
  have b3 : Below w2.heap.size w2 w3 := hw3 ▸ below_alloc (Below.refl _ _) _
  have y1 : w1.heap.size = w.heap.size + 1 := by rw [← hw1]; simp
  have y2 : w2.heap.size = w.heap.size + 2 := by rw [← hw2]; simp [y1]
  have y3 : w3.heap.size = w.heap.size + 3 := by rw [← hw3]; simp [y2]
  have r1 : RowAt 24 w.heap.size [.slice Ap p.length cp] w3 := ((hw1 ▸ RowAt.new _ _ w : RowAt 24 w.heap.size [.slice Ap p.length cp] w1).below b2).below b3
  have r2 : RowAt 47 w1.heap.size [.slice A s.frames.length c, .int .i64 s.fuel, .slice Ao s.out.length co, .int .i64 s.done, .int .i64 s.value] w3 := (hw2 ▸ RowAt.new _ _ w1 : RowAt 47 w1.heap.size _ w2).below b3
  have r3 : RowAt 74 w2.heap.size [.int .i64 0, .int .i64 0, .slice none 0 0, .int .i64 0] w3 := hw3 ▸ RowAt.new _ _ w2
  have b03 := below_trans (below_trans b1 b2) b3
  have k1 := row_cell r1
  have s0 := r2.cell (k := 0) (by simp)
  have s1 := r2.cell (k := 1) (by simp)
  have s2 := r2.cell (k := 2) (by simp)
  have s3 := r2.cell (k := 3) (by simp)
  have s4 := r2.cell (k := 4) (by simp)
  simp only [List.getElem_cons_zero, List.getElem_cons_succ] at s0 s1 s2 s3 s4
  have HS := Lib.hid (rstate_any p Ap A Ao cp c co s w3 (hr.below b03) (hs.fr.below b03) (hs.out.below b03))
  unfold sttV at HS
  have R1 := Lib.hid r1
  have R2 := Lib.hid r2
  have R3 := Lib.hid r3
  have B3 := Lib.hid b03
  have Y := Lib.hid (And.intro y1 (And.intro y2 y3))
  have HR := Lib.hid (hr.below b03)
  have HSS := Lib.hid (hs.below b03)
  have HR0 := Lib.hid hr
  clear hr hs b1 b2 b3 y1 y2 y3 b03 r1 r2 r3
  go_enter Tryz.func39, Tryz.ntmps39
  go_wp2_with fail
  (with_reducible refine HS.out.mono ?_)
  rintro e w4 ⟨rfl, hB⟩
  have HB := Lib.hid hB
  cases hb : stateB p s with
  | false =>
    have r3 := R3.out.below hB
    obtain ⟨q1, q2⟩ := goNo hb
    have n0 := r3.free 0
    have n1 := r3.free 1
    have n2 := r3.free 2
    have n3 := r3.free 3
    obtain ⟨c0, c1, c2, c3⟩ : w4.cell? ⟨w2.heap.size, 0, none⟩ = some (.int .i64 0) ∧ w4.cell? ⟨w2.heap.size, 1, none⟩ = some (.int .i64 0) ∧ w4.cell? ⟨w2.heap.size, 2, none⟩ = some (.slice none 0 0) ∧ w4.cell? ⟨w2.heap.size, 3, none⟩ = some (.int .i64 0) := ⟨r3.cell (k := 0) (by simp), r3.cell (k := 1) (by simp), r3.cell (k := 2) (by simp), r3.cell (k := 3) (by simp)⟩
    have pz := put4 r3 rfl (.int .i64 0) (.int .i64 0) (.slice none 0 0) (.int .i64 0)
    have EE := Lib.hid pz.1
    have FIN := Lib.hid (show EvalE (goR p s) (goC p s) w (.returned (.tuple #[.agg #[.int .i64 0, .int .i64 0, .slice none 0 0, .int .i64 0], .int .i64 800])) _ from by
      rw [q1, q2]
      exact ⟨.slice none 0 0, rfl, CRow.nil _ _ _ _, Chg.below (below_trans B3.out hB) pz.2 (fun b e => by have := Y.out; omega)⟩)
    clear pz hB r3 hw1 hw2 hw3 k1 s0 s1 s2 s3 s4 q1 q2 hb
    go_wp2_with fail
    exact bodyPost_ret (v := .tuple #[.agg #[.int .i64 0, .int .i64 0, .slice none 0 0, .int .i64 0], .int .i64 800]) (by simp [results, Tryz.results39, go_sem, EE.out.1, EE.out.2.1, EE.out.2.2.1, EE.out.2.2.2]) rfl FIN.out
  | true =>
    have hfit := fit_state hb
    obtain ⟨q1, q2⟩ := goY hb
    have QQ := Lib.hid (And.intro q1 q2)
    have HBB := Lib.hid hb
    have HC := rcopy_any s A Ao c co w4 (HSS.out.below hB) hfit
    unfold sttV at HC
    have HCP := Lib.hid HC
    have s0 := cell_below hB s0
    have s1 := cell_below hB s1
    have s2 := cell_below hB s2
    have s3 := cell_below hB s3
    have s4 := cell_below hB s4
    clear hB hw1 hw2 hw3 q1 q2 hb hfit HC k1
    go_wp2_with fail
    (with_reducible refine HCP.out.mono ?_)
    rintro e w5 ⟨fv, ov, vss, rfl, hO, hB5⟩
    obtain ⟨A4, c4, Ao4, co4, rfl, rfl, -, -⟩ := hO.reads
    unfold sttV
    have r2 := (R2.out.below HB.out).below hB5
    have z0 := r2.free 0
    have z1 := r2.free 1
    have z2 := r2.free 2
    have z3 := r2.free 3
    have z4 := r2.free 4
    obtain ⟨x0, x1, x2, x3, x4⟩ : w5.cell? ⟨w1.heap.size, 0, none⟩ = some (.slice A s.frames.length c) ∧ w5.cell? ⟨w1.heap.size, 1, none⟩ = some (.int .i64 s.fuel) ∧ w5.cell? ⟨w1.heap.size, 2, none⟩ = some (.slice Ao s.out.length co) ∧ w5.cell? ⟨w1.heap.size, 3, none⟩ = some (.int .i64 s.done) ∧ w5.cell? ⟨w1.heap.size, 4, none⟩ = some (.int .i64 s.value) := ⟨r2.cell (k := 0) (by simp), r2.cell (k := 1) (by simp), r2.cell (k := 2) (by simp), r2.cell (k := 3) (by simp), r2.cell (k := 4) (by simp)⟩
    obtain ⟨hSt, hkS⟩ := stAt_store hO r2 rfl (by have := HB.out.size; have := Y.out; omega)
    have ST := Lib.hid hSt
    have B6 := Lib.hid (Chg.below (below_trans B3.out (below_trans HB.out hB5)) hkS (fun b e => by have := Y.out; omega))
    have SZ6 := Lib.hid (show w4.heap.size ≤ (((((w5.setCell ⟨w1.heap.size, 0, none⟩ (.slice A4 s.frames.length c4)).setCell ⟨w1.heap.size, 1, none⟩ (.int .i64 s.fuel)).setCell ⟨w1.heap.size, 2, none⟩ (.slice Ao4 s.out.length co4)).setCell ⟨w1.heap.size, 3, none⟩ (.int .i64 s.done)).setCell ⟨w1.heap.size, 4, none⟩ (.int .i64 s.value)).heap.size from Nat.le_trans hB5.size hkS.size)
    have P6 := Lib.hid (((R1.out.below HB.out).below hB5).chg hkS (by have := Y.out; omega))
    have R6 := Lib.hid (((R3.out.below HB.out).below hB5).chg hkS (by have := Y.out; omega))
    have BS := Lib.hid (show w.heap.size + 3 ≤ w4.heap.size by have := HB.out.size; have := Y.out; omega)
    clear hO hB5 r2 hSt hkS HCP s0 s1 s2 s3 s4
    go_upto_region 4 with fail
    clear z0 z1 z2 z3 z4 x0 x1 x2 x3 x4
    go_loopg [] (endM s) (fun k wr => ∃ s' fv' ov' vss', endM s' ≤ k ∧ StAt wr w4.heap.size w1.heap.size s' fv' ov' vss' ∧ stateB p s' = true ∧ endS p s' = endS p s ∧ Below w.heap.size w wr ∧ w4.heap.size ≤ wr.heap.size ∧ RowAt 24 w.heap.size [.slice Ap p.length cp] wr ∧ RowAt 74 w2.heap.size [.int .i64 0, .int .i64 0, .slice none 0 0, .int .i64 0] wr)
    case atStart => exact ⟨s, _, _, vss, Nat.le_refl _, ST.out, HBB.out, rfl, B6.out, SZ6.out, P6.out, R6.out⟩
    case round =>
      obtain ⟨s', fv', ov', vss', hk, hS, hs, he, hW, hbw, hP, hR⟩ := hrel
      obtain ⟨A5, c5, Ao5, co5, rfl, rfl, -, -⟩ := hS.own.reads
      have SS := Lib.hid hS
      have HS' := Lib.hid hs
      have HE := Lib.hid he
      have HW' := Lib.hid hW
      have HBW := Lib.hid hbw
      have HP' := Lib.hid hP
      have HR' := Lib.hid hR
      have HK := Lib.hid hk
      obtain ⟨c0, c1, c2, c3, c4, zz⟩ := hS.cells
      have p0 := row_cell hP
      by_cases hd : s'.done = 0
      · have d0 : (s'.done == 0) = true := by simpa using hd
        have H := Lib.hid (ronceA (W0 := w) (cp := cp) hS.own hbw (by have := BS.out; omega) hW HR0.out hs)
        have HDN := Lib.hid hd
        clear hk hS hs he hW hbw hP hR zz ST B6 SZ6 P6 R6 hd
        go_wp2_with fail
        (with_reducible refine H.out.mono ?_)
        rintro e w7 ⟨A9, c9, Ao9, co9, vss9, rfl, hO9, hC9, hN9⟩
        have hd := HDN.out
        have h0 : 0 ≤ s'.fuel := (state_of HS'.out hd).2.1
        have hm : endM (onceS p s') < endM s' := by
          unfold endM
          rw [if_pos hd]
          by_cases hf : s'.fuel = 0
          · rw [onceS_zero hf, if_neg (by simp)]; omega
          · rw [(onceS_left hf).1]; split <;> omega
        have en : stepN p s' = onceS p s' := if_pos hd
        rw [en] at hO9 hN9 ⊢
        have lo : ∀ b, (FrB (.slice A5 s'.frames.length c5) vss' b ∨ ob (.slice Ao5 s'.out.length co5) = some b) → w4.heap.size ≤ b := fun b hb => by
          rcases hb with ⟨x, hx, e⟩ | e
          · exact (OwnG.lo SS.out.own.fr x hx b e).1
          · exact (SS.out.own.out.in_ b e).1
        have r7 := SS.out.row.chg hC9 (fun h => by have := lo _ h; have := BS.out; have := Y.out; omega)
        have z0 := r7.free 0
        have z1 := r7.free 1
        have z2 := r7.free 2
        have z3 := r7.free 3
        have z4 := r7.free 4
        have x0 := r7.cell (k := 0) (by simp [sttC])
        have x1 := r7.cell (k := 1) (by simp [sttC])
        have x2 := r7.cell (k := 2) (by simp [sttC])
        have x3 := r7.cell (k := 3) (by simp [sttC])
        have x4 := r7.cell (k := 4) (by simp [sttC])
        simp only [sttC, List.getElem_cons_zero, List.getElem_cons_succ] at x0 x1 x2 x3 x4
        obtain ⟨hSt, hkS⟩ := stAt_store hO9 r7 rfl (by have := BS.out; have := Y.out; omega)
        have HR2 := Lib.hid (show ∃ s'' fv'' ov'' vss'', endM s'' ≤ endM (onceS p s') ∧ StAt (((((w7.setCell ⟨w1.heap.size, 0, none⟩ (.slice A9 (onceS p s').frames.length c9)).setCell ⟨w1.heap.size, 1, none⟩ (.int .i64 (onceS p s').fuel)).setCell ⟨w1.heap.size, 2, none⟩ (.slice Ao9 (onceS p s').out.length co9)).setCell ⟨w1.heap.size, 3, none⟩ (.int .i64 (onceS p s').done)).setCell ⟨w1.heap.size, 4, none⟩ (.int .i64 (onceS p s').value)) w4.heap.size w1.heap.size s'' fv'' ov'' vss'' ∧ stateB p s'' = true ∧ endS p s'' = endS p s ∧ Below w.heap.size w (((((w7.setCell ⟨w1.heap.size, 0, none⟩ (.slice A9 (onceS p s').frames.length c9)).setCell ⟨w1.heap.size, 1, none⟩ (.int .i64 (onceS p s').fuel)).setCell ⟨w1.heap.size, 2, none⟩ (.slice Ao9 (onceS p s').out.length co9)).setCell ⟨w1.heap.size, 3, none⟩ (.int .i64 (onceS p s').done)).setCell ⟨w1.heap.size, 4, none⟩ (.int .i64 (onceS p s').value)) ∧ w4.heap.size ≤ (((((w7.setCell ⟨w1.heap.size, 0, none⟩ (.slice A9 (onceS p s').frames.length c9)).setCell ⟨w1.heap.size, 1, none⟩ (.int .i64 (onceS p s').fuel)).setCell ⟨w1.heap.size, 2, none⟩ (.slice Ao9 (onceS p s').out.length co9)).setCell ⟨w1.heap.size, 3, none⟩ (.int .i64 (onceS p s').done)).setCell ⟨w1.heap.size, 4, none⟩ (.int .i64 (onceS p s').value)).heap.size ∧ RowAt 24 w.heap.size [.slice Ap p.length cp] (((((w7.setCell ⟨w1.heap.size, 0, none⟩ (.slice A9 (onceS p s').frames.length c9)).setCell ⟨w1.heap.size, 1, none⟩ (.int .i64 (onceS p s').fuel)).setCell ⟨w1.heap.size, 2, none⟩ (.slice Ao9 (onceS p s').out.length co9)).setCell ⟨w1.heap.size, 3, none⟩ (.int .i64 (onceS p s').done)).setCell ⟨w1.heap.size, 4, none⟩ (.int .i64 (onceS p s').value)) ∧ RowAt 74 w2.heap.size [.int .i64 0, .int .i64 0, .slice none 0 0, .int .i64 0] (((((w7.setCell ⟨w1.heap.size, 0, none⟩ (.slice A9 (onceS p s').frames.length c9)).setCell ⟨w1.heap.size, 1, none⟩ (.int .i64 (onceS p s').fuel)).setCell ⟨w1.heap.size, 2, none⟩ (.slice Ao9 (onceS p s').out.length co9)).setCell ⟨w1.heap.size, 3, none⟩ (.int .i64 (onceS p s').done)).setCell ⟨w1.heap.size, 4, none⟩ (.int .i64 (onceS p s').value)) from
          ⟨_, _, _, _, Nat.le_refl _, hSt, once_state HS'.out hd, by rw [← endS_step h0 hd]; exact HE.out, Chg.below (Chg.below HW'.out hC9 (fun b hb => by have := lo b hb; have := BS.out; omega)) hkS (fun b e => by have := Y.out; omega), Nat.le_trans HBW.out (Nat.le_trans hC9.size hkS.size),
            (HP'.out.chg hC9 (fun h => by have := lo _ h; have := BS.out; omega)).chg hkS (by have := Y.out; omega), (HR'.out.chg hC9 (fun h => by have := lo _ h; have := BS.out; have := Y.out; omega)).chg hkS (by have := Y.out; omega)⟩)
        have HMM := Lib.hid hm
        clear hO9 hC9 hN9 hm en lo r7 hSt hkS h0 hd d0 c0 c1 c2 c3 c4 p0 H
        go_wp2_with fail
        go_roundg (endM (onceS p s'))
        case measure => have := HMM.out; have := HK.out; omega
        case rel => exact HR2.out
      · have d0 : (s'.done == 0) = false := by simpa using hd
        have ee : endS p s' = s' := endS_done hd
        rw [ee] at HE
        have n0 := hR.free 0
        have n1 := hR.free 1
        have n2 := hR.free 2
        have n3 := hR.free 3
        obtain ⟨q0, q1, q2, q3⟩ : wr.cell? ⟨w2.heap.size, 0, none⟩ = some (.int .i64 0) ∧ wr.cell? ⟨w2.heap.size, 1, none⟩ = some (.int .i64 0) ∧ wr.cell? ⟨w2.heap.size, 2, none⟩ = some (.slice none 0 0) ∧ wr.cell? ⟨w2.heap.size, 3, none⟩ = some (.int .i64 0) := ⟨hR.cell (k := 0) (by simp), hR.cell (k := 1) (by simp), hR.cell (k := 2) (by simp), hR.cell (k := 3) (by simp)⟩
        have pz := put4 hR rfl (.int .i64 s'.done) (.int .i64 s'.value) (.slice Ao5 s'.out.length co5) (.int .i64 s'.fuel)
        have EE := Lib.hid pz.1
        have FIN := Lib.hid (show EvalE (goR p s) (goC p s) w (.returned (.tuple #[.agg #[.int .i64 s'.done, .int .i64 s'.value, .slice Ao5 s'.out.length co5, .int .i64 s'.fuel], .int .i64 0])) _ from by
          rw [QQ.out.1, QQ.out.2, ← HE.out]
          exact ⟨.slice Ao5 s'.out.length co5, rfl, (CRow.mono hS.own.out (show w.heap.size ≤ w4.heap.size by have := BS.out; omega)).chg pz.2 (fun b hb e => by have := (hS.own.out.in_ b hb).1; have := BS.out; have := Y.out; omega), Chg.below hW pz.2 (fun b e => by have := Y.out; omega)⟩)
        clear hk hS hs hW hbw hP hR zz ST B6 SZ6 P6 R6 hd ee he pz
        go_wp2_with fail
        exact bodyPost_ret (v := .tuple #[.agg #[.int .i64 s'.done, .int .i64 s'.value, .slice Ao5 s'.out.length co5, .int .i64 s'.fuel], .int .i64 0]) (by simp [results, Tryz.results39, go_sem, EE.out.1, EE.out.2.1, EE.out.2.2.1, EE.out.2.2.2]) rfl FIN.out
end Go.Proofs.YtpfgklkdldkajaaGreatDoor
