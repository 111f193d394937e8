/- The document's 'Step'. Conditions: the program, the state lie in memory. -/
import Derived.Test.YtpfgklkdldkajaaGreatDoorRCopyS
import Derived.Test.YtpfgklkdldkajaaGreatDoorGZ24
import Derived.Test.YtpfgklkdldkajaaGreatDoorGZ28
import Derived.Deep.RegionLaw
namespace Go.Proofs.YtpfgklkdldkajaaGreatDoor
open Go.RowKit

set_option maxRecDepth 100000 in
set_option maxHeartbeats 8000000 in
theorem rstep_any (p : List Fn) (Ap A Ao : Option Addr) (cp c co : Nat) (s : Stt) (w : World) (hr : ReadsF w Ap p) (hs : ReadsS w s A Ao) :
    Calls Tryz.prog 27 #[.agg #[.slice Ap p.length cp], sttV s (.slice A s.frames.length c) (.slice Ao s.out.length co)] w (StateE (stepS p s) (stepC p s) w) := by
  unfold sttV
  obtain ⟨w1, hw1⟩ : ∃ w1, w.alloc (.cells #[.slice Ap p.length cp] 24) = w1 := ⟨_, rfl⟩
  obtain ⟨w2, hw2⟩ : ∃ w2, w1.alloc (.cells #[.slice A s.frames.length c, .int .i64 s.fuel, .slice Ao s.out.length co, .int .i64 s.done, .int .i64 s.value] 47) = w2 := ⟨_, rfl⟩
  obtain ⟨w3, hw3⟩ : ∃ w3, w2.alloc (.cells #[.slice none 0 0, .int .i64 0, .slice none 0 0, .int .i64 0, .int .i64 0] 47) = w3 := ⟨_, rfl⟩
  have b1 : Below w.heap.size w w1 := hw1 ▸ below_alloc (Below.refl _ _) _
  have b2 : Below w1.heap.size w1 w2 := hw2 ▸ below_alloc (Below.refl _ _) _
  have b3 : Below w2.heap.size w2 w3 := hw3 ▸ below_alloc (Below.refl _ _) _
  have y1 : w1.heap.size = w.heap.size + 1 := by rw [← hw1]; simp
  have y2 : w2.heap.size = w.heap.size + 2 := by rw [← hw2]; simp [y1]
  have y3 : w3.heap.size = w.heap.size + 3 := by rw [← hw3]; simp [y2]
  have r1 : RowAt 24 w.heap.size [.slice Ap p.length cp] w3 := ((hw1 ▸ RowAt.new _ _ w : RowAt 24 w.heap.size [.slice Ap p.length cp] w1).below b2).below b3
  have r2 : RowAt 47 w1.heap.size [.slice A s.frames.length c, .int .i64 s.fuel, .slice Ao s.out.length co, .int .i64 s.done, .int .i64 s.value] w3 := (hw2 ▸ RowAt.new _ _ w1 : RowAt 47 w1.heap.size _ w2).below b3
  have r3 : RowAt 47 w2.heap.size [.slice none 0 0, .int .i64 0, .slice none 0 0, .int .i64 0, .int .i64 0] w3 := hw3 ▸ RowAt.new _ _ w2
  have b03 := below_trans (below_trans b1 b2) b3
  have k1 := row_cell r1
  have s0 := r2.cell (k := 0) (by simp)
  have s1 := r2.cell (k := 1) (by simp)
  have s2 := r2.cell (k := 2) (by simp)
  have s3 := r2.cell (k := 3) (by simp)
  have s4 := r2.cell (k := 4) (by simp)
  simp only [List.getElem_cons_zero, List.getElem_cons_succ] at s0 s1 s2 s3 s4
  have HS := Lib.hid (rstate_any p Ap A Ao cp c co s w3 (hr.below b03) (hs.fr.below b03) (hs.out.below b03))
  unfold sttV at HS
  have R1 := Lib.hid r1
  have R2 := Lib.hid r2
  have R3 := Lib.hid r3
  have B3 := Lib.hid b03
  have Y := Lib.hid (And.intro y1 (And.intro y2 y3))
  have HR := Lib.hid (hr.below b03)
  have HSS := Lib.hid (hs.below b03)
  clear hr hs b1 b2 b3 y1 y2 y3 b03 r1 r2 r3
  go_enter Tryz.func27, Tryz.ntmps27
  go_wp2_with fail
  (with_reducible refine HS.out.mono ?_)
  rintro e w4 ⟨rfl, hB⟩
  have r3 := R3.out.below hB
  have n0 := r3.free 0
  have n1 := r3.free 1
  have n2 := r3.free 2
  have n3 := r3.free 3
  have n4 := r3.free 4
  have HB := Lib.hid hB
  cases hb : stateB p s with
  | false =>
    obtain ⟨q1, q2⟩ := stepNo hb
    obtain ⟨c0, c1, c2, c3, c4⟩ : w4.cell? ⟨w2.heap.size, 0, none⟩ = some (.slice none 0 0) ∧ w4.cell? ⟨w2.heap.size, 1, none⟩ = some (.int .i64 0) ∧ w4.cell? ⟨w2.heap.size, 2, none⟩ = some (.slice none 0 0) ∧ w4.cell? ⟨w2.heap.size, 3, none⟩ = some (.int .i64 0) ∧ w4.cell? ⟨w2.heap.size, 4, none⟩ = some (.int .i64 0) := ⟨r3.cell (k := 0) (by simp), r3.cell (k := 1) (by simp), r3.cell (k := 2) (by simp), r3.cell (k := 3) (by simp), r3.cell (k := 4) (by simp)⟩
    have pz := put5s r3 rfl (.slice none 0 0) (.int .i64 0) (.slice none 0 0) (.int .i64 0) (.int .i64 0)
    have EE := Lib.hid pz.1
    have FIN := Lib.hid (show StateE (stepS p s) (stepC p s) w (.returned (.tuple #[.agg #[.slice none 0 0, .int .i64 0, .slice none 0 0, .int .i64 0, .int .i64 0], .int .i64 700])) _ from by
      rw [q1, q2]
      exact ⟨.slice none 0 0, .slice none 0 0, [], rfl, own_zero _ _, Chg.below (below_trans B3.out hB) pz.2 (fun b e => by have := Y.out; omega)⟩)
    clear pz hB r3 hw1 hw2 hw3 k1 s0 s1 s2 s3 s4 q1 q2 hb
    go_wp2_with fail
    exact bodyPost_ret (v := .tuple #[.agg #[.slice none 0 0, .int .i64 0, .slice none 0 0, .int .i64 0, .int .i64 0], .int .i64 700]) (by simp [results, Tryz.results27, go_sem, EE.out.1, EE.out.2.1, EE.out.2.2.1, EE.out.2.2.2.1, EE.out.2.2.2.2]) rfl FIN.out
  | true =>
    have hfit := fit_state hb
    obtain ⟨q1, q2⟩ := stepY hb
    have QQ := Lib.hid (And.intro q1 q2)
    have HBB := Lib.hid hb
    have bd : Below w4.heap.size w4 w4.drew := below_drw (Below.refl _ _)
    have HC := rcopy_any s A Ao c co w4.drew ((HSS.out.below hB).below bd) hfit
    unfold sttV at HC
    have HCP := Lib.hid HC
    have k1 := cell_below hB k1
    have s0 := cell_below hB s0
    have s1 := cell_below hB s1
    have s2 := cell_below hB s2
    have s3 := cell_below hB s3
    have s4 := cell_below hB s4
    have HON := Lib.hid (show ∀ (W : World) (A4 Ao4 : Option Addr) (c4 co4 : Nat) (vss : List (List Value)), OwnS W w4.heap.size s (.slice A4 s.frames.length c4) (.slice Ao4 s.out.length co4) vss → Below w4.heap.size w4 W →
        Calls Tryz.prog 64 #[.agg #[.slice Ap p.length cp], .agg #[.slice A4 s.frames.length c4, .int .i64 s.fuel, .slice Ao4 s.out.length co4, .int .i64 s.done, .int .i64 s.value]] W fun e w9 => ∃ t A9 c9 Ao9 co9 vss9, stepN p s = t ∧ e = .returned (.agg #[.slice A9 t.frames.length c9, .int .i64 t.fuel, .slice Ao9 t.out.length co9, .int .i64 t.done, .int .i64 t.value]) ∧
          OwnS w9 w4.heap.size t (.slice A9 t.frames.length c9) (.slice Ao9 t.out.length co9) vss9 ∧ Below w4.heap.size w4 w9 from fun W A4 Ao4 c4 co4 vss hO hB4 => by
      refine (ronceA (W0 := w4) (cp := cp) hO hB4.size (Nat.le_refl _) hB4 (HR.out.below HB.out) HBB.out).mono ?_
      rintro e w9 ⟨A9, c9, Ao9, co9, vss9, rfl, hO9, hC9, _⟩
      refine ⟨_, A9, c9, Ao9, co9, vss9, rfl, rfl, hO9, Chg.below hB4 hC9 (fun b hb => ?_)⟩
      rcases hb with ⟨x, hx, e⟩ | e
      · exact (OwnG.lo hO.fr x hx b e).1
      · exact (hO.out.in_ b e).1)
    clear hB r3 hw1 hw2 hw3 q1 q2 hb hfit n0 n1 n2 n3 n4 HC bd
    go_upto_region 3 with fail
    go_region_law (first
      | (rw [if_pos (by rfl)]; go_simp; go_at_call 65; (with_reducible refine HCP.out.mono ?_); rintro e w5 ⟨fv, ov, vss, rfl, hO, hB5⟩; obtain ⟨A4, c4, Ao4, co4, rfl, rfl, -, -⟩ := hO.reads; have HO4 := Lib.hid hO; have HB5 := Lib.hid (below_trans (below_drw (Below.refl _ _)) hB5); have k15 := cell_below hB5 k1; clear hO hB5; unfold sttV; go_simp)
      | (rw [if_pos (by rfl)]; go_simp; go_at_call 64; (with_reducible refine (HON.out _ _ _ _ _ _ HO4.out HB5.out).mono ?_); rintro e w9 ⟨t, A9, c9, Ao9, co9, vss9, ht, rfl, hO9, hB9⟩; have r3 := R3.out.below (below_trans HB.out hB9); have n0 := r3.free 0; have n1 := r3.free 1; have n2 := r3.free 2; have n3 := r3.free 3; have n4 := r3.free 4; have m0 := r3.cell (k := 0) (by simp); have m1 := r3.cell (k := 1) (by simp); have m2 := r3.cell (k := 2) (by simp); have m3 := r3.cell (k := 3) (by simp); have m4 := r3.cell (k := 4) (by simp); simp only [List.getElem_cons_zero, List.getElem_cons_succ] at m0 m1 m2 m3 m4; have HO9 := Lib.hid hO9; have HB9 := Lib.hid hB9; have HT := Lib.hid ht; clear hO9 hB9 ht r3; go_simp))
    all_goals
      (try simp only [Exit.then])
      have r3 := R3.out.below (below_trans HB.out HB9.out)
      have pz := put5s r3 rfl (.slice A9 t.frames.length c9) (.int .i64 t.fuel) (.slice Ao9 t.out.length co9) (.int .i64 t.done) (.int .i64 t.value)
      have EE := Lib.hid pz.1
      have FIN := Lib.hid (show StateE (stepS p s) (stepC p s) w (.returned (.tuple #[.agg #[.slice A9 t.frames.length c9, .int .i64 t.fuel, .slice Ao9 t.out.length co9, .int .i64 t.done, .int .i64 t.value], .int .i64 0])) _ from by
        rw [QQ.out.2, QQ.out.1, HT.out]
        exact ⟨.slice A9 t.frames.length c9, .slice Ao9 t.out.length co9, vss9, rfl, (HO9.out.chg pz.2 (fun b e => by have := HB.out.size; have := Y.out; omega)).mono (by have := HB.out.size; have := Y.out; omega), Chg.below (below_trans B3.out (below_trans HB.out HB9.out)) pz.2 (fun b e => by have := Y.out; omega)⟩)
      clear pz r3
      go_wp2_with fail
      (try simp only [Exit.inBlock, Exit.then])
      exact bodyPost_ret (v := .tuple #[.agg #[.slice A9 t.frames.length c9, .int .i64 t.fuel, .slice Ao9 t.out.length co9, .int .i64 t.done, .int .i64 t.value], .int .i64 0]) (by simp [results, Tryz.results27, go_sem, EE.out.1, EE.out.2.1, EE.out.2.2.1, EE.out.2.2.2.1, EE.out.2.2.2.2]) rfl FIN.out
end Go.Proofs.YtpfgklkdldkajaaGreatDoor
