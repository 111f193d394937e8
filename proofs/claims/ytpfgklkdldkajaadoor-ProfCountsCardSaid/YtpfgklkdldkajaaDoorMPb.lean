/- 'CopyArgProfs', 'CopyProf' of the statements: a profile of the call's own, the same. Conditions: the profile lies in memory; no list is longer than the reach. Rows of structs of the call's own, of which the first ones alone have rows of their own. Plain lemmas. 'slices.Clone' of ints, of what is told of args, of profiles: another list, of the call's own. Conditions: the lists lie in memory; none is longer than the reach. 'prof.Copy': a profile of the call's own, the same. Conditions: the profile lies in memory; no list is longer than the reach. -/
import Derived.Test.YtpfgklkdldkajaaDoorMPa
import Derived.Test.YtpfgklkdldkajaaDoorLawKit
import Derived.Test.YtpfgklkdldkajaaDoorOwnH
import Derived.Deep.RegionHeld3
namespace Go.Proofs.YtpfgklkdldkajaaDoor
open Go.RowKit

theorem info_args : (Tryd.prog.info? 52).map (fun i => (i.zero, i.size, i.bytes)) = some (some (.agg #[.int .i64 0, .int .i64 0, .int .i64 0]), 3, 24) := by kernel_rfl
theorem info_fpr : (Tryd.prog.info? 50).map (fun i => (i.zero, i.size, i.bytes)) = some (some (.agg #[.int .i64 0, .slice none 0 0, .slice none 0 0, .slice none 0 0]), 4, 80) := by kernel_rfl
theorem append_copyA {W : World} {A : Option Addr} {c : Nat} {xs : List ArgP} (hr : ReadsA W A xs) (hz : xs.length * 24 ≤ 140737488351232) :
    ∃ ao cap W', (Builtin.append_ #[48, 48] 48 #[.slice (some ⟨W.heap.size, 0, none⟩) 0 0, .slice A xs.length c]).run Tryd.prog (W.alloc (.cells #[] 52)) = .ok (.slice ao xs.length cap) W' ∧ CRow W' W.heap.size 52 3 (.slice ao xs.length cap) xs.length (argsV xs) ∧ Below W.heap.size W W' := by
  obtain ⟨i, hi, hz0, hs, hb⟩ := info_parts info_args
  have b1 : Below W.heap.size W (W.alloc (.cells #[] 52)) := below_alloc (Below.refl _ _) _
  obtain ⟨v', W', hrun, hG⟩ := run_append_crow (P := Tryd.prog) (W.alloc (.cells #[] 52)) 48 52 48 48 i (.agg #[.int .i64 0, .int .i64 0, .int .i64 0]) 3 24 Tryd.underlying48 hi hz0 hs hb rfl W.heap.size (some ⟨W.heap.size, 0, none⟩) 0 0 [] (.inr ⟨rfl, rfl, _, rfl⟩) (by simp)
    (.slice A xs.length c) xs.length (argsV xs) (args_src Tryd.underlying48 (hr.below b1)) (by omega) (by unfold maxLen; omega)
  have hrow := hG.row
  rw [Nat.zero_add, List.nil_append] at hrow
  obtain ⟨ao, cap, rfl, _, _⟩ := hrow.shape
  exact ⟨ao, cap, W', hrun, hrow, (Chg.below b1 hG.chg (fun b hb => by cases hb))⟩
def CopyAE (xs : List ArgP) (w : World) (e : Ending) (w' : World) : Prop := ∃ ao cap, e = .returned (.slice ao xs.length cap) ∧ CRow w' w.heap.size 52 3 (.slice ao xs.length cap) xs.length (argsV xs) ∧ Below w.heap.size w w'
theorem copyArgs_any (A : Option Addr) (c : Nat) (xs : List ArgP) (w : World) (hr : ReadsA w A xs) (hz : xs.length * 24 ≤ 140737488351232) :
    Calls Tryd.prog 52 #[.slice A xs.length c] w (CopyAE xs w) := by
  obtain ⟨ao, cap, w1, hrun, hc, hb⟩ := append_copyA (c := c) hr hz
  have HC := Lib.hid hc
  have HB := Lib.hid hb
  clear hc hb hr hz
  go_enter Tryd.func52, Tryd.ntmps52
  go_wp2_with (first | (at_builtin; refine wpList_append_run _ rfl _ _ _ _ rfl _ _ _ _ rfl rfl hrun ?_) | fail)
  go_ret
  exact ⟨ao, cap, rfl, HC.out, HB.out⟩
/-- No list of a profile is longer than the reach. -/
def FitP (r : List FPr) : Prop := r.length * 80 ≤ 140737488351232 ∧ ∀ f ∈ r, f.jumps.length * 8 ≤ 140737488351232 ∧ f.falls.length * 8 ≤ 140737488351232 ∧ f.args.length * 24 ≤ 140737488351232
/-- A call that answers a profile of its own. -/
def ProfG (r : List FPr) (w : World) (e : Ending) (w' : World) : Prop := ∃ ao cap vss, e = .returned (.agg #[.slice ao r.length cap]) ∧ OwnPr w' w.heap.size (.slice ao r.length cap) r vss ∧ Below w.heap.size w w'
theorem fpr_src {w : World} {g : Nat} {f : FPr} {A1 A2 A3 : Option Addr} {n1 c1 n2 c2 n3 c3 : Nat} (h : RowAt 50 g [.int .i64 f.calls, .slice A1 n1 c1, .slice A2 n2 c2, .slice A3 n3 c3] w) : Src Tryd.prog 4 42 (.slice (some ⟨g, 0, none⟩) 1 1) 1 [.int .i64 f.calls, .slice A1 n1 c1, .slice A2 n2 c2, .slice A3 n3 c3] w :=
  Src.ofSlice _ Tryd.underlying42 _ 1 1 _ rfl (fun j u hu => by
    obtain ⟨hj, rfl⟩ := List.getElem?_eq_some_iff.1 hu
    rw [add_plain]
    exact h.cell (k := j) hj) (fun u hu => by
    simp at hu
    rcases hu with rfl | rfl | rfl | rfl <;> rfl)
set_option maxRecDepth 100000 in
set_option maxHeartbeats 8000000 in
theorem copyProf_any (A : Option Addr) (c : Nat) (r : List FPr) (w : World) (hr : ReadsP w A r) (hz : FitP r) :
    Calls Tryd.prog 23 #[.agg #[.slice A r.length c]] w (ProfG r w) := by
  obtain ⟨w0, hw0⟩ : ∃ w0, w.alloc (.cells #[.slice A r.length c] 44) = w0 := ⟨_, rfl⟩
  obtain ⟨w1, hw1⟩ : ∃ w1, w0.alloc (.cells #[.slice none 0 0] 44) = w1 := ⟨_, rfl⟩
  obtain ⟨w2, hw2⟩ : ∃ w2, w1.alloc (.cells #[.slice none 0 0] 44) = w2 := ⟨_, rfl⟩
  have z0 : w0.heap.size = w.heap.size + 1 := by rw [← hw0]; simp
  have z1 : w1.heap.size = w.heap.size + 2 := by rw [← hw1]; simp [z0]
  have z2 : w2.heap.size = w.heap.size + 3 := by rw [← hw2]; simp [z1]
  have b0 : Below w.heap.size w w0 := hw0 ▸ below_alloc (Below.refl _ _) _
  have b01 : Below w0.heap.size w0 w1 := hw1 ▸ below_alloc (Below.refl _ _) _
  have b12 : Below w1.heap.size w1 w2 := hw2 ▸ below_alloc (Below.refl _ _) _
  have r0 : RowAt 44 w.heap.size [.slice A r.length c] w2 := ((hw0 ▸ RowAt.new _ _ w : RowAt 44 w.heap.size [.slice A r.length c] w0).below b01).below b12
  have r1 : RowAt 44 w0.heap.size [.slice none 0 0] w2 := (hw1 ▸ RowAt.new _ _ w0 : RowAt 44 w0.heap.size [.slice none 0 0] w1).below b12
  have r2 : RowAt 44 w1.heap.size [.slice none 0 0] w2 := hw2 ▸ RowAt.new _ _ w1
  have B2 := Lib.hid (below_trans (below_trans b0 b01) b12)
  have R0 := Lib.hid r0
  have R1 := Lib.hid r1
  have R2 := Lib.hid r2
  have HX := Lib.hid hr
  have HZ := Lib.hid hz
  have HNIL := Lib.hid (OwnG.nil KPr w2 w2.heap.size)
  have hn := hr.1
  clear hr hz b0 b01 b12 r0 r1 r2
  have HZS := Lib.hid (And.intro z0 (And.intro z1 z2))
  clear z0 z1 z2
  go_enter Tryd.func23, Tryd.ntmps23
  go_wp2_with fail
  clear hw0 hw1 hw2
  go_loopw [4] (fun i wr => ∃ (k : Nat) (v : Value) (vss : List (List Value)), i = .int .i64 k ∧ k ≤ r.length ∧ OwnG KPr wr w2.heap.size v (r.take k) vss ∧ RowAt 44 w.heap.size [.slice A r.length c] wr ∧ RowAt 44 w0.heap.size [.slice none 0 0] wr ∧ RowAt 44 w1.heap.size [v] wr ∧ Below w.heap.size w wr ∧ w2.heap.size ≤ wr.heap.size) (fun i _ => r.length - (intOf i).toNat)
  case atStart => exact ⟨0, _, _, rfl, Nat.zero_le _, HNIL.out, R0.out, R1.out, R2.out, B2.out, Nat.le_refl _⟩
  case round =>
    obtain ⟨k, v, vss, rfl, hk, ho, h0, h1, h2, hb, hsz⟩ := hrel
    have c0 := row_cell h0
    have HO := Lib.hid ho
    have H0 := Lib.hid h0
    have H1 := Lib.hid h1
    have H2 := Lib.hid h2
    have HB := Lib.hid hb
    have HSZ := Lib.hid hsz
    clear ho h0 h1 h2 hb hsz HNIL R0 R1 R2 B2
    by_cases hlt : k < r.length
    case neg =>
      have hke : r.take k = r := List.take_of_length_le (by omega)
      rw [hke] at HO
      have c2 := row_cell H2.out
      have c1 := row_cell H1.out
      have f1 := H1.out.free 0
      obtain ⟨ao, cap, rfl, _, _⟩ := HO.out.row.shape
      have kc : Chg (fun x => x = w0.heap.size) wr (wr.setCell ⟨w0.heap.size, 0, none⟩ (.slice ao r.length cap)) := Chg.put (S := fun x => x = w0.heap.size) (Chg.refl _ wr) (a := ⟨w0.heap.size, 0, none⟩) rfl _
      have hz := HZS.out
      have F1 := Lib.hid (OwnG.mono (OwnG.chg HO.out kc (fun u hu b hb e => by have := (OwnG.lo HO.out u hu b hb).1; omega)) (show w.heap.size ≤ w2.heap.size by omega))
      have F2 := Lib.hid (Below.setCell HB.out (p := ⟨w0.heap.size, 0, none⟩) (by simp; omega) (.slice ao r.length cap))
      have e1 := World.cell?_setCell_same (w := wr) (a := ⟨w0.heap.size, 0, none⟩) (v := .slice ao r.length cap) (h := c1)
      clear kc hke hz
      go_wp2_with fail
      exact bodyPost_ret (v := .agg #[.slice ao r.length cap]) (by simp [results, Tryd.results23, go_sem, e1]) rfl ⟨ao, cap, _, rfl, F1.out, F2.out⟩
    obtain ⟨ad, eA, c1, ⟨J1, n1, c2, s1⟩, ⟨J2, n2, c3, s2⟩, J3, n3, c4, s3⟩ := HX.out.at_ HB.out hlt
    subst eA
    obtain ⟨y1, y2, y3⟩ := HZ.out.2 _ (List.getElem_mem hlt)
    obtain ⟨f, ef⟩ : ∃ f, r[k] = f := ⟨_, rfl⟩
    rw [ef] at c1 c2 c3 c4 s1 s2 s3 y1 y2 y3
    have EF := Lib.hid ef
    clear ef
    obtain ⟨w3, hw3⟩ : ∃ w3, wr.alloc (.cells #[.int .i64 f.calls, .slice J1 f.jumps.length n1, .slice J2 f.falls.length n2, .slice J3 f.args.length n3] 50) = w3 := ⟨_, rfl⟩
    have HF := Lib.hid (show Half 50 wr w3 [.int .i64 f.calls, .slice J1 f.jumps.length n1, .slice J2 f.falls.length n2, .slice J3 f.args.length n3] [] [] from hw3 ▸ Half.start _ _ wr)
    have hR := HF.out.row
    have dv := hR.cell (k := 1) (by simp)
    simp only [List.getElem_cons_zero, List.getElem_cons_succ] at dv
    obtain ⟨a1, cp1, wc1, hrun, hcr, hbc⟩ := append_copy (c := n1) (s1.below HF.out.below) y1
    have dz := cell_below (below_alloc (Below.refl _ _) (.cells #[] 3)) dv
    have rC := hR.below hbc
    have fC := rC.free 1
    have gC := rC.cell (k := 1) (by simp)
    simp only [List.getElem_cons_zero, List.getElem_cons_succ] at gC
    have HS := Lib.hid (HF.out.step hbc (show InnAt _ _ (.slice a1 f.jumps.length cp1) (innI f.jumps) from hcr) (j := 1))
    simp only [List.set_cons_zero, List.set_cons_succ, List.nil_append] at HS
    clear hR rC hcr hbc
    go_upto_region 7 with (first | (at_builtin; refine wpList_append_run _ rfl _ _ _ _ rfl _ _ _ _ rfl rfl hrun ?_) | fail)
    clear hrun dv dz fC gC
    clear hw3 c0 c1 c2 c3 c4
    obtain ⟨wn1, hwn1⟩ : ∃ wn1, wc1.setCell ⟨wr.heap.size, 1, none⟩ (.slice a1 f.jumps.length cp1) = wn1 := ⟨_, rfl⟩
    rw [hwn1] at HS ⊢
    replace HF := HS
    clear HS hwn1
    have hR := HF.out.row
    have dv := hR.cell (k := 2) (by simp)
    simp only [List.getElem_cons_zero, List.getElem_cons_succ] at dv
    obtain ⟨a2, cp2, wc2, hrun, hcr, hbc⟩ := append_copy (c := n2) (s2.below HF.out.below) y2
    have dz := cell_below (below_alloc (Below.refl _ _) (.cells #[] 3)) dv
    have rC := hR.below hbc
    have fC := rC.free 2
    have gC := rC.cell (k := 2) (by simp)
    simp only [List.getElem_cons_zero, List.getElem_cons_succ] at gC
    have HS := Lib.hid (HF.out.step hbc (show InnAt _ _ (.slice a2 f.falls.length cp2) (innI f.falls) from hcr) (j := 2))
    simp only [List.set_cons_zero, List.set_cons_succ, List.nil_append, List.cons_append] at HS
    clear hR rC hcr hbc
    go_upto_region 8 with (first | (at_builtin; refine wpList_append_run _ rfl _ _ _ _ rfl _ _ _ _ rfl rfl hrun ?_) | fail)
    clear hrun dv dz fC gC
    obtain ⟨wn2, hwn2⟩ : ∃ wn2, wc2.setCell ⟨wr.heap.size, 2, none⟩ (.slice a2 f.falls.length cp2) = wn2 := ⟨_, rfl⟩
    rw [hwn2] at HS ⊢
    replace HF := HS
    clear HS hwn2
    have hR := HF.out.row
    have dv := hR.cell (k := 3) (by simp)
    simp only [List.getElem_cons_zero, List.getElem_cons_succ] at dv
    have HC := Lib.hid (copyArgs_any J3 n3 f.args wn2 (s3.below HF.out.below) y3)
    go_wp2_with fail
    (with_reducible refine HC.out.mono ?_)
    rintro e wc3 ⟨a3, cp3, rfl, hcr, hbc⟩
    have rC := hR.below hbc
    have fC := rC.free 3
    have gC := rC.cell (k := 3) (by simp)
    simp only [List.getElem_cons_zero, List.getElem_cons_succ] at gC
    have HS := Lib.hid (HF.out.step hbc (show InnAt _ _ (.slice a3 f.args.length cp3) (innA f.args) from hcr) (j := 3))
    simp only [List.set_cons_zero, List.set_cons_succ, List.nil_append, List.cons_append] at HS
    clear hR rC hcr hbc HC
    go_upto_region 9 with fail
    clear dv fC gC
    obtain ⟨wn3, hwn3⟩ : ∃ wn3, wc3.setCell ⟨wr.heap.size, 3, none⟩ (.slice a3 f.args.length cp3) = wn3 := ⟨_, rfl⟩
    rw [hwn3] at HS ⊢
    replace HF := HS
    clear HS hwn3
    have rP := HF.out.row
    have bl4 := HF.out.below
    have q1 := row_cell (H2.out.below bl4)
    have p0 := rP.cell (k := 0) (by simp)
    have p1 := rP.cell (k := 1) (by simp)
    have p2 := rP.cell (k := 2) (by simp)
    have p3 := rP.cell (k := 3) (by simp)
    simp only [List.getElem_cons_succ, List.getElem_cons_zero] at p0 p1 p2 p3
    have b5 := below_alloc (Below.refl wn3.heap.size wn3) (.cells #[.int .i64 f.calls, .slice a1 f.jumps.length cp1, .slice a2 f.falls.length cp2, .slice a3 f.args.length cp3] 50)
    have hsrc := fpr_src (f := f) (RowAt.new 50 [.int .i64 f.calls, .slice a1 f.jumps.length cp1, .slice a2 f.falls.length cp2, .slice a3 f.args.length cp3] wn3)
    have hkl : (r.take k).length = k := by simp; omega
    have hvin := OwnG.lo HO.out
    have HO5 := Lib.hid (OwnG.below (OwnG.below HO.out bl4) b5)
    have hrow5 := HO5.out.row
    simp only [hkl] at hrow5
    have HROW := Lib.hid hrow5
    have HBD := Lib.hid (HF.out.bld.below b5)
    have HKL := Lib.hid hkl
    have Hfpr_src := Lib.hid hsrc
    have HVIN := Lib.hid hvin
    have S0 := Lib.hid ((H0.out.below bl4).below b5)
    have S1 := Lib.hid ((H1.out.below bl4).below b5)
    have S2 := Lib.hid ((H2.out.below bl4).below b5)
    have B5 := Lib.hid (below_trans (below_trans HB.out bl4) b5)
    have HF4 := Lib.hid (show wr.heap.size + 1 ≤ wn3.heap.size by have := blk_lt rP; omega)
    obtain ⟨i0, hi0, hz0, hs0, hb0⟩ := info_parts info_fpr
    have HI0 := Lib.hid hi0
    have HZ0 := Lib.hid hz0
    have HS0 := Lib.hid hs0
    have HBY := Lib.hid hb0
    have hfz := HZ.out.1
    have HZ42 := Lib.hid (show w1.heap.size < w2.heap.size by have := HZS.out; omega)
    have HL1 := Lib.hid (blk_lt H1.out)
    have HL2 := Lib.hid (blk_lt H2.out)
    have HL0 := Lib.hid (blk_lt H0.out)
    clear hi0 hz0 hs0 hb0 rP bl4 b5 hsrc hkl hvin hrow5 HF
    go_wp2_with (first | (at_builtin; refine wpList_append_crow _ rfl _ _ 42 42 50 rfl i0 _ 4 80 Tryd.underlying42 HI0.out HZ0.out HS0.out HBY.out rfl w2.heap.size v k _ rfl HROW.out ?c1 _ 1 _ rfl Hfpr_src.out ?c2 ?c3 ?_; rotate_left 3; intro v' w5 hG; obtain ⟨ao', cap', hv', hle', hmx'⟩ := hG.row.shape; subst hv'; have hS2 := S2.out.chg hG.chg (fun e => by have := (HVIN.out v (by simp) _ e).1; have := HZ42.out; omega); have T1 := row_cell hS2; have T2 := hS2.free 0; have HG := Lib.hid hG; have HT2 := Lib.hid hS2; clear hG hS2) | fail)
    case c1 => have := HSZ.out; have := HF4.out; simp; omega
    case c2 => omega
    case c3 => unfold maxLen; omega
    have hG := HG.out
    have kc : Chg (fun x => x = w1.heap.size) w5 (w5.setCell ⟨w1.heap.size, 0, none⟩ (.slice ao' (k + 1) cap')) := Chg.put (S := fun x => x = w1.heap.size) (Chg.refl _ w5) (a := ⟨w1.heap.size, 0, none⟩) rfl _
    have hz := HZS.out
    have hgrow := OwnG.grow_build (N := wr.heap.size + 1) (x := f) (us := [.slice a1 f.jumps.length cp1, .slice a2 f.falls.length cp2, .slice a3 f.args.length cp3]) HO5.out (by rw [HKL.out]; exact hG) (fun u hu b hb => by have := (HVIN.out u hu b hb).2; omega) HBD.out (by have := HSZ.out; omega)
    have F1 := OwnG.chg hgrow kc (fun u hu b hb e => by have := (OwnG.lo hgrow u hu b hb).1; omega)
    have hnv : ∀ x, x < w2.heap.size → ob v ≠ some x := fun x hx e => by have := (HVIN.out v (by simp) _ e).1; omega
    have F2 := (S0.out.chg hG.chg (hnv _ (by omega))).chg kc (by omega)
    have F3 := (S1.out.chg hG.chg (hnv _ (by omega))).chg kc (by omega)
    have F4 := HT2.out.put 0 (.slice ao' (k + 1) cap')
    simp only [List.set_cons_zero] at F4
    have F5 := Below.setCell (Chg.below B5.out hG.chg (fun b hb => by have := (HVIN.out v (by simp) _ hb).1; omega)) (p := ⟨w1.heap.size, 0, none⟩) (by simp; omega) (.slice ao' (k + 1) cap')
    have F6 : w2.heap.size ≤ (w5.setCell ⟨w1.heap.size, 0, none⟩ (.slice ao' (k + 1) cap')).heap.size := by have h1 := hG.kept.size; have := HF4.out; have := HSZ.out; simp at h1 ⊢; omega
    have e3 : r.take (k + 1) = r.take k ++ [f] := by rw [List.take_succ_eq_append_getElem hlt, EF.out]
    rw [← e3] at F1
    have HFF := Lib.hid (And.intro F1 (And.intro F2 (And.intro F3 (And.intro F4 (And.intro F5 F6)))))
    clear F1 F2 F3 F4 F5 F6 hG hgrow kc hnv T1 T2 e3 hz
    go_wp2_with fail
    go_roundw
    case rel => exact ⟨k + 1, _, _, by go_num, by omega, HFF.out.1, HFF.out.2.1, HFF.out.2.2.1, HFF.out.2.2.2.1, HFF.out.2.2.2.2.1, HFF.out.2.2.2.2.2⟩
    case measure => simp only [intOf]; omega
end Go.Proofs.YtpfgklkdldkajaaDoor

namespace Go.Proofs.YtpfgklkdldkajaaDoor
open Go.RowKit

section
variable {α : Type} {K : Kind α} {w w1 w2 : World} {base : Nat} {v : Value} {xs : List α} {vss : List (List Value)}
/-- Structs of the call's own, of which the first m have rows of their own. -/
structure OwnU {α : Type} (K : Kind α) (w : World) (base : Nat) (v : Value) (xs : List α) (vss : List (List Value)) (m : Nat) : Prop where
  len : vss.length = xs.length
  row : CRow w base K.t K.sz v xs.length (List.zipWith K.cells xs vss).flatten
  inn : ∀ k (h : k < xs.length) (h' : k < vss.length), k < m → vss[k].length = (K.rows xs[k]).length ∧ ∀ j (hj : j < vss[k].length) (hj' : j < (K.rows xs[k]).length), InnAt w base vss[k][j] (K.rows xs[k])[j]
  one : ∀ k (h : k < vss.length) j (hj : j < vss[k].length) b, k < m → ob v = some b → ob vss[k][j] ≠ some b
  two : ∀ k (h : k < vss.length) j (hj : j < vss[k].length) k' (h' : k' < vss.length) j' (hj' : j' < vss[k'].length), k < m → k' < m → (k ≠ k' ∨ j ≠ j') → ∀ b, ob vss[k][j] = some b → ob vss[k'][j'] ≠ some b
theorem OwnU.done (h : OwnU K w base v xs vss xs.length) : OwnG K w base v xs vss :=
  ⟨h.len, h.row, fun k hk hk' => h.inn k hk hk' hk, ⟨fun k hk j hj b hb => h.one k hk j hj b (by have := h.len; omega) hb, fun k hk j hj k' hk' j' hj' hne b hb => h.two k hk j hj k' hk' j' hj' (by have := h.len; omega) (by have := h.len; omega) hne b hb⟩⟩
theorem OwnU.below {m : Nat} (h : OwnU K w base v xs vss m) (hb : Below w.heap.size w w1) : OwnU K w1 base v xs vss m :=
  ⟨h.len, h.row.below hb, fun k hk hk' hm => ⟨(h.inn k hk hk' hm).1, fun j hj hj' => CRow.below ((h.inn k hk hk' hm).2 j hj hj') hb⟩, h.one, h.two⟩
theorem OwnU.chg {S : Nat → Prop} {m : Nat} (h : OwnU K w base v xs vss m) (hk : Chg S w w1) (hs : ∀ b, S b → b < base) : OwnU K w1 base v xs vss m :=
  ⟨h.len, h.row.chg hk (fun b hb hS => by have := (h.row.in_ b hb).1; have := hs b hS; omega), fun k hk0 hk' hm => ⟨(h.inn k hk0 hk' hm).1, fun j hj hj' => CRow.chg ((h.inn k hk0 hk' hm).2 j hj hj') hk (fun b hb hS => by have := (CRow.in_ ((h.inn k hk0 hk' hm).2 j hj hj') b hb).1; have := hs b hS; omega)⟩, h.one, h.two⟩
theorem OwnU.step {m N : Nat} (h : OwnU K w base v xs vss m) (hm : m < xs.length) {us : List Value} (hch : Chg (fun b => ob v = some b) w w1) (hB : Build w1 N us (K.rows xs[m])) (hN : w.heap.size ≤ N) (hbN : base ≤ N)
    (hrow : CRow w1 base K.t K.sz v xs.length (List.zipWith K.cells xs (vss.set m us)).flatten) : OwnU K w1 base v xs (vss.set m us) (m + 1) := by
  have hl := h.len
  have hm' : m < vss.length := by omega
  have getm : (vss.set m us)[m]'(by simpa using hm') = us := List.getElem_set_self _
  have getn : ∀ i (hi : i < (vss.set m us).length), i ≠ m → (vss.set m us)[i] = vss[i]'(by simpa using hi) := fun i hi hne => List.getElem_set_ne (fun e => hne e.symm) _
  have ulo : ∀ j (hj : j < us.length) b, ob us[j] = some b → N ≤ b := fun j hj b hb => by
    have hj' : j < (K.rows xs[m]).length := by rw [← hB.len]; exact hj
    exact (CRow.in_ (hB.inn j hj hj') b hb).1
  have old : ∀ i (hi : i < vss.length) j (hj : j < vss[i].length) b, i < m → ob vss[i][j] = some b → b < w.heap.size := fun i hi j hj b him hb => by
    obtain ⟨e, hin⟩ := h.inn i (by omega) hi him
    exact (CRow.in_ (hin j hj (by omega)) b hb).2
  refine ⟨by simpa using hl, hrow, fun i hi hi' him => ?_, fun i hi j hj b him hb => ?_, fun i hi j hj i' hi' j' hj' him him' hne b hb => ?_⟩
  · by_cases hne : i = m
    · subst hne
      simp only [getm]
      exact ⟨hB.len, fun j hj hj' => CRow.mono (hB.inn j hj hj') hbN⟩
    · have ev := getn i hi' hne
      simp only [ev]
      obtain ⟨e, hin⟩ := h.inn i hi (by simpa using hi') (by omega)
      exact ⟨e, fun j hj hj' => CRow.chg (hin j hj hj') hch (fun b hb hs => h.one i (by simpa using hi') j hj b (by omega) hs hb)⟩
  · by_cases hne : i = m
    · have ei : (vss.set m us)[i] = us := by subst hne; exact getm
      obtain ⟨hj2, ej⟩ := get_cast ei hj
      rw [ej]
      intro hb2
      have := ulo j hj2 b hb2
      have := (h.row.in_ b hb).2
      omega
    · obtain ⟨hj2, ej⟩ := get_cast (getn i hi hne) hj
      rw [ej]
      exact h.one i (by simpa using hi) j hj2 b (by omega) hb
  · by_cases hik : i = m
    · have ei : (vss.set m us)[i] = us := by subst hik; exact getm
      obtain ⟨hj2, ej⟩ := get_cast ei hj
      rw [ej] at hb
      have hge := ulo j hj2 b hb
      by_cases hik' : i' = m
      · have ei' : (vss.set m us)[i'] = us := by subst hik'; exact getm
        obtain ⟨hj3, ej'⟩ := get_cast ei' hj'
        rw [ej']
        exact hB.self j hj2 j' hj3 (hne.resolve_left (fun h => h (hik.trans hik'.symm))) b hb
      · obtain ⟨hj3, ej'⟩ := get_cast (getn i' hi' hik') hj'
        rw [ej']
        intro hb2
        have := old i' (by simpa using hi') j' hj3 b (by omega) hb2
        omega
    · obtain ⟨hj2, ej⟩ := get_cast (getn i hi hik) hj
      rw [ej] at hb
      have hlt := old i (by simpa using hi) j hj2 b (by omega) hb
      by_cases hik' : i' = m
      · have ei' : (vss.set m us)[i'] = us := by subst hik'; exact getm
        obtain ⟨hj3, ej'⟩ := get_cast ei' hj'
        rw [ej']
        intro hb2
        have := ulo j' hj3 b hb2
        omega
      · obtain ⟨hj3, ej'⟩ := get_cast (getn i' hi' hik') hj'
        rw [ej']
        exact h.two i (by simpa using hi) j hj2 i' (by simpa using hi') j' hj3 (by omega) (by omega) hne b hb
/-- An element's cells. -/
theorem OwnU.cell {m : Nat} {ao : Option Addr} {n cap : Nat} (h : OwnU K w base (.slice ao n cap) xs vss m) (hs : 0 < K.sz) {k : Nat} (hk : k < xs.length) :
    ∃ g off, ao = some ⟨g, off, none⟩ ∧ base ≤ g ∧ g < w.heap.size ∧ ob (.slice ao n cap) = some g ∧ ∀ k (hk : k < xs.length) (hk' : k < vss.length) j (hj : j < (K.cells xs[k] vss[k]).length), w.cell? ⟨g, off + k * K.sz + j, none⟩ = some (K.cells xs[k] vss[k])[j] ∧ w.frozen? ⟨g, off + k * K.sz + j, none⟩ = false := by
  have hl := h.len
  have ho := h.row.own (by omega)
  obtain ⟨ao', cap', e, hnc, _⟩ := ho.shape
  injection e with e1 e2 e3
  subst e1 e2 e3
  have hz : (List.zipWith K.cells xs vss).length = xs.length := by simp [hl]
  obtain ⟨g, off, rfl, h1, h2, hc⟩ := ho.elt (zip_len K xs vss) hs (i := k) (by omega)
  refine ⟨g, off, rfl, h1, h2, ob_some (by omega), fun k hk hk' j hj => ?_⟩
  have := hc k (by omega) j (by rw [List.getElem_zipWith]; exact hj)
  simp only [List.getElem_zipWith] at this
  simpa only [Nat.add_assoc] using this
end
end Go.Proofs.YtpfgklkdldkajaaDoor

namespace Go.Proofs.YtpfgklkdldkajaaDoor
open Go.RowKit

theorem eqlIn_nil {P : Program} (w : World) (d : Nat) (t e : TypeId) (a : Option Addr) (l c : Nat) (h : P.underlying t = some (.slice e)) : (Op.equalIn (d + 1) t (.slice a l c) (.slice none 0 0)).run P w = .ok a.isNone w := by
  cases a <;> simp [Op.equalIn, run_underlying h]
theorem eqlOf_nil {P : Program} (w : World) (t e : TypeId) (a : Option Addr) (l c : Nat) (h : P.underlying t = some (.slice e)) : (Op.equal t (.slice a l c) (.slice none 0 0)).run P w = .ok a.isNone w := eqlIn_nil w 9999 t e a l c h
theorem eql_nil {P : Program} (w : World) (t e : TypeId) (a : Option Addr) (l c : Nat) (h : P.underlying t = some (.slice e)) : (binOp .eql t (.slice a l c) (.slice none 0 0)).run P w = .ok (.bool a.isNone) w := by
  simp [binOp, eqlOf_nil w t e a l c h]
/-- A call that answers a list of its own. -/
def CloneE (t sz n : Nat) (cs : List Value) (w : World) (e : Ending) (w' : World) : Prop := ∃ ao cap, e = .returned (.slice ao n cap) ∧ CRow w' w.heap.size t sz (.slice ao n cap) n cs ∧ Below w.heap.size w w'
set_option maxRecDepth 100000 in
theorem cloneI_any (A : Option Addr) (c : Nat) (xs : List Int) (w : World) (hr : ReadsI w A xs) (hz : xs.length * 8 ≤ 140737488351232) :
    Calls Tryd.prog 77 #[.slice A xs.length c] w (CloneE 3 1 xs.length (intsV xs) w) := by
  cases A with
  | none =>
    obtain rfl := reads_none hr rfl
    have hq : (binOp .eql 32 (.slice none 0 c) (.slice none 0 0)).run Tryd.prog w = .ok (.bool true) w := eql_nil w _ 3 none 0 c Tryd.underlying32
    clear hz hr
    go_enter Tryd.func77, Tryd.ntmps77
    go_wp2_with fail
    go_ret
    exact ⟨none, 0, rfl, CRow.nil _ _ _ _, Below.refl _ _⟩
  | some a =>
    obtain ⟨ao, cap, w1, hrun, hc, hb⟩ := append_copy (c := c) hr hz
    have hq : (binOp .eql 32 (.slice (some a) xs.length c) (.slice none 0 0)).run Tryd.prog w = .ok (.bool false) w := eql_nil w _ 3 (some a) _ c Tryd.underlying32
    have HC := Lib.hid hc
    have HB := Lib.hid hb
    clear hc hb hr hz
    go_enter Tryd.func77, Tryd.ntmps77
    go_wp2_with (first | (at_builtin; refine wpList_append_run _ rfl _ _ _ _ rfl _ _ _ _ rfl rfl hrun ?_) | fail)
    go_ret
    exact ⟨ao, cap, rfl, HC.out, HB.out⟩
set_option maxRecDepth 100000 in
theorem cloneA_any (A : Option Addr) (c : Nat) (xs : List ArgP) (w : World) (hr : ReadsA w A xs) (hz : xs.length * 24 ≤ 140737488351232) :
    Calls Tryd.prog 78 #[.slice A xs.length c] w (CloneE 52 3 xs.length (argsV xs) w) := by
  cases A with
  | none =>
    obtain rfl := args_none hr rfl
    have hq : (binOp .eql 48 (.slice none 0 c) (.slice none 0 0)).run Tryd.prog w = .ok (.bool true) w := eql_nil w _ 52 none 0 c Tryd.underlying48
    clear hz hr
    go_enter Tryd.func78, Tryd.ntmps78
    go_wp2_with fail
    go_ret
    exact ⟨none, 0, rfl, CRow.nil _ _ _ _, Below.refl _ _⟩
  | some a =>
    obtain ⟨ao, cap, w1, hrun, hc, hb⟩ := append_copyA (c := c) hr hz
    have hq : (binOp .eql 48 (.slice (some a) xs.length c) (.slice none 0 0)).run Tryd.prog w = .ok (.bool false) w := eql_nil w _ 52 (some a) _ c Tryd.underlying48
    have HC := Lib.hid hc
    have HB := Lib.hid hb
    clear hc hb hr hz
    go_enter Tryd.func78, Tryd.ntmps78
    go_wp2_with (first | (at_builtin; refine wpList_append_run _ rfl _ _ _ _ rfl _ _ _ _ rfl rfl hrun ?_) | fail)
    go_ret
    exact ⟨ao, cap, rfl, HC.out, HB.out⟩
theorem add_succ3 (a : Addr) (j : Nat) : (⟨(a.add j).block, (a.add j).off + 3, none⟩ : Addr) = a.add (j + 3) := by
  unfold Addr.add
  by_cases h : j = 0
  · subst h; simp
  · rw [if_neg h, if_neg (by omega)]; rfl
/-- A profile's cells, out of what they are read as. -/
theorem prof_rows {w : World} {A : Option Addr} {r : List FPr} (h : ReadsP w A r) : ∃ vss : List (List Value), vss.length = r.length ∧
    (∀ k (hk : k < r.length) (hk' : k < vss.length), ∃ A1 n1 A2 n2 A3 n3, vss[k] = [.slice A1 r[k].jumps.length n1, .slice A2 r[k].falls.length n2, .slice A3 r[k].args.length n3] ∧ ReadsI w A1 r[k].jumps ∧ ReadsI w A2 r[k].falls ∧ ReadsA w A3 r[k].args) ∧
    (0 < r.length → ∃ ad : Addr, A = some ad ∧ ∀ j u, (List.zipWith KPr.cells r vss).flatten[j]? = some u → w.cell? (ad.add j) = some u) := by
  have key : ∀ k, ∃ vs : List Value, ∀ hk : k < r.length, ∃ A1 n1 A2 n2 A3 n3, vs = [.slice A1 r[k].jumps.length n1, .slice A2 r[k].falls.length n2, .slice A3 r[k].args.length n3] ∧ ReadsI w A1 r[k].jumps ∧ ReadsI w A2 r[k].falls ∧ ReadsA w A3 r[k].args ∧
      ∃ ad : Addr, A = some ad ∧ w.cell? (ad.add (k * 4)) = some (.int .i64 r[k].calls) ∧ w.cell? ⟨(ad.add (k * 4)).block, (ad.add (k * 4)).off + 1, none⟩ = some (.slice A1 r[k].jumps.length n1) ∧ w.cell? ⟨(ad.add (k * 4)).block, (ad.add (k * 4)).off + 2, none⟩ = some (.slice A2 r[k].falls.length n2) ∧ w.cell? ⟨(ad.add (k * 4)).block, (ad.add (k * 4)).off + 3, none⟩ = some (.slice A3 r[k].args.length n3) := fun k => by
    by_cases hk : k < r.length
    · obtain ⟨ad, e, c0, ⟨A1, n1, c1, s1⟩, ⟨A2, n2, c2, s2⟩, A3, n3, c3, s3⟩ := h.at_ (Below.refl _ _) hk
      exact ⟨[.slice A1 r[k].jumps.length n1, .slice A2 r[k].falls.length n2, .slice A3 r[k].args.length n3], fun _ => ⟨A1, n1, A2, n2, A3, n3, rfl, s1, s2, s3, ad, e, c0, c1, c2, c3⟩⟩
    · exact ⟨[], fun h => absurd h hk⟩
  let vss : List (List Value) := (List.range r.length).map fun k => (key k).choose
  have hvl : vss.length = r.length := by simp [vss]
  have hvk : ∀ k (hk : k < r.length) (hk' : k < vss.length), vss[k] = (key k).choose := fun k hk hk' => by simp [vss]
  refine ⟨vss, hvl, fun k hk hk' => ?_, fun h0 => ?_⟩
  · rw [hvk k hk hk']
    obtain ⟨A1, n1, A2, n2, A3, n3, e, s1, s2, s3, _⟩ := (key k).choose_spec hk
    exact ⟨A1, n1, A2, n2, A3, n3, e, s1, s2, s3⟩
  · obtain ⟨ad, eA, _⟩ := h.2 h0
    refine ⟨ad, eA, fun j u hu => ?_⟩
    obtain ⟨hj, rfl⟩ := List.getElem?_eq_some_iff.1 hu
    have hL := zip_len KPr r vss
    have hzl : (List.zipWith KPr.cells r vss).length = r.length := by simp [hvl]
    have hfl := flat_len hL
    rw [hzl] at hfl
    have hfl4 : (List.zipWith KPr.cells r vss).flatten.length = r.length * 4 := hfl
    have hk : j / 4 < r.length := by omega
    have hkz : j / 4 < (List.zipWith KPr.cells r vss).length := by omega
    have hkv : j / 4 < vss.length := by omega
    obtain ⟨A1, n1, A2, n2, A3, n3, e, s1, s2, s3, ad', eA', c0, c1, c2, c3⟩ := (key (j / 4)).choose_spec hk
    rw [← hvk _ hk hkv] at e
    cases eA.symm.trans eA'
    have hcells : (List.zipWith KPr.cells r vss)[j / 4] = [.int .i64 r[j / 4].calls, .slice A1 r[j / 4].jumps.length n1, .slice A2 r[j / 4].falls.length n2, .slice A3 r[j / 4].args.length n3] := by
      rw [List.getElem_zipWith, e]; rfl
    have hm : j % 4 < 4 := Nat.mod_lt _ (by decide)
    have ej : j = j / 4 * 4 + j % 4 := by omega
    have hget : (List.zipWith KPr.cells r vss).flatten[j] = ([Value.int .i64 r[j / 4].calls, .slice A1 r[j / 4].jumps.length n1, .slice A2 r[j / 4].falls.length n2, .slice A3 r[j / 4].args.length n3])[j % 4]'(by simpa using hm) := by
      have h1 := flat_get hL (i := j / 4) (j := j % 4) hkz (by rw [hcells]; simpa using hm) (by have := hfl4; show j / 4 * 4 + j % 4 < _; omega)
      simp only [hcells] at h1
      rw [← h1]
      congr 1
    rw [hget]
    obtain e0 | e0 | e0 | e0 : j % 4 = 0 ∨ j % 4 = 1 ∨ j % 4 = 2 ∨ j % 4 = 3 := by omega
    · simp only [e0, List.getElem_cons_zero]; rw [← c0]; congr 2; omega
    · simp only [e0, List.getElem_cons_zero, List.getElem_cons_succ]; rw [← c1, add_succ]; congr 2; omega
    · simp only [e0, List.getElem_cons_zero, List.getElem_cons_succ]; rw [← c2, add_succ2]; congr 2; omega
    · simp only [e0, List.getElem_cons_zero, List.getElem_cons_succ]; rw [← c3, add_succ3]; congr 2; omega
end Go.Proofs.YtpfgklkdldkajaaDoor

namespace Go.Proofs.YtpfgklkdldkajaaDoor
open Go.RowKit

/-- A call that answers a profile's rows, copied; what stands in them is as it was. -/
def CloneP (r : List FPr) (vss : List (List Value)) (w : World) (e : Ending) (w' : World) : Prop := ∃ ao cap, e = .returned (.slice ao r.length cap) ∧ CRow w' w.heap.size 50 4 (.slice ao r.length cap) r.length (List.zipWith KPr.cells r vss).flatten ∧ Below w.heap.size w w'
theorem prof_src {P : Program} {tx e' : TypeId} (hk : P.underlying tx = some (.slice e')) {w : World} {a : Addr} {c : Nat} {r : List FPr} {vss : List (List Value)} (hl : vss.length = r.length) (hv : ∀ k (hk : k < r.length) (hk' : k < vss.length), ∃ A1 n1 A2 n2 A3 n3, vss[k] = [.slice A1 r[k].jumps.length n1, .slice A2 r[k].falls.length n2, .slice A3 r[k].args.length n3])
    (h : ∀ j u, (List.zipWith KPr.cells r vss).flatten[j]? = some u → w.cell? (a.add j) = some u) : Src P 4 tx (.slice (some a) r.length c) r.length (List.zipWith KPr.cells r vss).flatten w :=
  Src.ofSlice w hk a _ c _ (by have := flat_len (zip_len KPr r vss); rw [show (List.zipWith KPr.cells r vss).length = r.length by simp [hl]] at this; exact this) h (fun u hu => by
    obtain ⟨l, hlm, hul⟩ := List.mem_flatten.1 hu
    obtain ⟨k, hk, rfl⟩ := List.mem_iff_getElem.1 hlm
    have hk1 : k < r.length := by simp at hk; omega
    have hk2 : k < vss.length := by omega
    obtain ⟨A1, n1, A2, n2, A3, n3, e⟩ := hv k hk1 hk2
    rw [List.getElem_zipWith, e] at hul
    simp [KPr] at hul
    rcases hul with rfl | rfl | rfl | rfl <;> rfl)
set_option maxRecDepth 100000 in
theorem cloneP_any (A : Option Addr) (c : Nat) (r : List FPr) (vss : List (List Value)) (w : World) (hr : ReadsP w A r) (hz : r.length * 80 ≤ 140737488351232) (hl : vss.length = r.length)
    (hv : ∀ k (hk : k < r.length) (hk' : k < vss.length), ∃ A1 n1 A2 n2 A3 n3, vss[k] = [.slice A1 r[k].jumps.length n1, .slice A2 r[k].falls.length n2, .slice A3 r[k].args.length n3]) (hc : 0 < r.length → ∃ ad : Addr, A = some ad ∧ ∀ j u, (List.zipWith KPr.cells r vss).flatten[j]? = some u → w.cell? (ad.add j) = some u) :
    Calls Tryd.prog 76 #[.slice A r.length c] w (CloneP r vss w) := by
  cases A with
  | none =>
    have h0 : r.length = 0 := by
      rcases Nat.eq_zero_or_pos r.length with h | h
      · exact h
      · obtain ⟨ad, e, _⟩ := hc h; cases e
    obtain rfl := List.eq_nil_of_length_eq_zero h0
    have hq : (binOp .eql 42 (.slice none 0 c) (.slice none 0 0)).run Tryd.prog w = .ok (.bool true) w := eql_nil w _ 50 none 0 c Tryd.underlying42
    clear hz hr hl hv hc h0
    go_enter Tryd.func76, Tryd.ntmps76
    go_wp2_with fail
    go_ret
    exact ⟨none, 0, rfl, CRow.nil _ _ _ _, Below.refl _ _⟩
  | some a =>
    obtain ⟨i, hi, hz0, hs, hb⟩ := info_parts info_fpr
    have b1 : Below w.heap.size w (w.alloc (.cells #[] 50)) := below_alloc (Below.refl _ _) _
    have hsrc : Src Tryd.prog 4 42 (.slice (some a) r.length c) r.length (List.zipWith KPr.cells r vss).flatten (w.alloc (.cells #[] 50)) := prof_src Tryd.underlying42 hl hv (fun j u hu => by
      have h0 : 0 < r.length := by
        obtain ⟨hj, _⟩ := List.getElem?_eq_some_iff.1 hu
        rcases Nat.eq_zero_or_pos r.length with h | h
        · obtain rfl := List.eq_nil_of_length_eq_zero h
          simp at hj
        · exact h
      obtain ⟨ad, e, hcc⟩ := hc h0
      cases e
      have := hcc j u hu
      exact (b1.cell (World.block_lt_of_cell? w _ this)).trans this)
    obtain ⟨v', w1, hrun, hG⟩ := run_append_crow (P := Tryd.prog) (w.alloc (.cells #[] 50)) 42 50 42 42 i _ 4 80 Tryd.underlying42 hi hz0 hs hb rfl w.heap.size (some ⟨w.heap.size, 0, none⟩) 0 0 [] (.inr ⟨rfl, rfl, _, rfl⟩) (by simp)
      (.slice (some a) r.length c) r.length _ hsrc (by omega) (by unfold maxLen; omega)
    have hrow := hG.row
    rw [Nat.zero_add, List.nil_append] at hrow
    obtain ⟨ao, cap, rfl, _, _⟩ := hrow.shape
    have HC := Lib.hid hrow
    have HB := Lib.hid (Chg.below b1 hG.chg (fun b hb => by cases hb))
    have hq : (binOp .eql 42 (.slice (some a) r.length c) (.slice none 0 0)).run Tryd.prog w = .ok (.bool false) w := eql_nil w _ 50 (some a) _ c Tryd.underlying42
    clear hrow hG hi hz0 hs hb b1 hsrc hr hz hl hv hc
    go_enter Tryd.func76, Tryd.ntmps76
    go_wp2_with (first | (at_builtin; refine wpList_append_run _ rfl _ _ _ _ rfl _ _ _ _ rfl rfl hrun ?_) | fail)
    go_ret
    exact ⟨ao, cap, rfl, HC.out, HB.out⟩
/-- A function's profile, with rows of its own from here on. -/
theorem OwnPrU.step {w wa : World} {base g off n cap k : Nat} {r : List FPr} {vs : List (List Value)} (h : OwnU KPr w base (.slice (some ⟨g, off, none⟩) n cap) r vs k) (hk : k < r.length) (hb : Below w.heap.size w wa) {u1 u2 u3 : Value} (hB : Build wa w.heap.size [u1, u2, u3] (KPr.rows r[k])) (hbase : base ≤ w.heap.size) :
    OwnU KPr (((wa.setCell ⟨g, off + k * 4 + 1, none⟩ u1).setCell ⟨g, off + k * 4 + 2, none⟩ u2).setCell ⟨g, off + k * 4 + 3, none⟩ u3) base (.slice (some ⟨g, off, none⟩) n cap) r (vs.set k [u1, u2, u3]) (k + 1) := by
  have hl := h.len
  have hzl : (List.zipWith KPr.cells r vs).length = r.length := by simp [hl]
  obtain ⟨_, _, e2, hnc, _⟩ := h.row.shape
  injection e2 with _ e2 e3
  subst e2 e3
  have hob : ob (.slice (some ⟨g, off, none⟩) r.length cap) = some g := ob_some (by omega)
  have hgl := (h.row.in_ g hob).2
  have r0 := h.row.below hb
  have hki : k < (List.zipWith KPr.cells r vs).length := by omega
  rw [show List.zipWith KPr.cells r vs = (List.zipWith KPr.cells r vs).set k ((List.zipWith KPr.cells r vs)[k]) from (List.set_getElem_self _).symm] at r0
  have hL := zip_len KPr r vs
  have l0 : ((List.zipWith KPr.cells r vs)[k]).length = 4 := hL _ (List.getElem_mem hki)
  have r1 := CRow.elt_put' hL hki l0 r0 (j := 1) (by decide) u1
  have r2 := CRow.elt_put' hL hki (by rw [List.length_set]; exact l0) r1 (j := 2) (by decide) u2
  have r3 := CRow.elt_put' hL hki (by rw [List.length_set, List.length_set]; exact l0) r2 (j := 3) (by decide) u3
  have e : ((((List.zipWith KPr.cells r vs)[k]).set 1 u1).set 2 u2).set 3 u3 = KPr.cells r[k] [u1, u2, u3] := by
    rw [List.getElem_zipWith]; rfl
  rw [e, zip_set KPr hk hl, List.set_getElem_self] at r3
  have c1 : Chg (fun b => b = g) wa (((wa.setCell ⟨g, off + k * 4 + 1, none⟩ u1).setCell ⟨g, off + k * 4 + 2, none⟩ u2).setCell ⟨g, off + k * 4 + 3, none⟩ u3) :=
    (((Chg.refl (fun b => b = g) wa).put (a := ⟨g, off + k * 4 + 1, none⟩) rfl _).put (a := ⟨g, off + k * 4 + 2, none⟩) rfl _).put (a := ⟨g, off + k * 4 + 3, none⟩) rfl _
  exact OwnU.step h hk ((Chg.of_below (S := fun b => ob (.slice (some ⟨g, off, none⟩) r.length cap) = some b) hb).trans c1 (fun i _ e => by subst e; exact hob)) (hB.chg c1 (fun b e => by omega)) (Nat.le_refl _) hbase r3
set_option maxRecDepth 100000 in
set_option maxHeartbeats 4000000 in
theorem copyM_any (P : Addr) (A : Option Addr) (c : Nat) (r : List FPr) (w : World) (hP : w.cell? P = some (.slice A r.length c)) (hr : ReadsP w A r) (hz : FitP r) :
    Calls Tryd.prog 48 #[.pointer (some P)] w (ProfG r w) := by
  obtain ⟨vss, hl, hv, hc⟩ := prof_rows hr
  have hn := hr.1
  have HZ := Lib.hid hz
  obtain ⟨w0, hw0⟩ : ∃ w0, w.alloc (.cells #[.slice none 0 0] 44) = w0 := ⟨_, rfl⟩
  have b0 : Below w.heap.size w w0 := hw0 ▸ below_alloc (Below.refl _ _) _
  have y0 : w0.heap.size = w.heap.size + 1 := by rw [← hw0]; simp
  have R0 := Lib.hid (hw0 ▸ RowAt.new _ _ w : RowAt 44 w.heap.size [.slice none 0 0] w0)
  have hP0 := cell_below b0 hP
  have H := Lib.hid (cloneP_any A c r vss w0 (hr.below b0) hz.1 hl (fun k hk hk' => by
    obtain ⟨A1, n1, A2, n2, A3, n3, e, _⟩ := hv k hk hk'
    exact ⟨A1, n1, A2, n2, A3, n3, e⟩) (fun h => by
    obtain ⟨ad, e, hcc⟩ := hc h
    exact ⟨ad, e, fun j u hu => cell_below b0 (hcc j u hu)⟩))
  have HV := Lib.hid hv
  have HL := Lib.hid hl
  have B0 := Lib.hid b0
  have Y0 := Lib.hid y0
  clear hv hl hc hr hz b0 y0
  go_enter Tryd.func48, Tryd.ntmps48
  go_wp2_with fail
  (with_reducible refine H.out.mono ?_)
  rintro e w1 ⟨ao, cap, rfl, hcr, hB⟩
  obtain ⟨w2, hw2⟩ : ∃ w2, w1.alloc (.cells #[.slice ao r.length cap] 44) = w2 := ⟨_, rfl⟩
  have b12 : Below w1.heap.size w1 w2 := hw2 ▸ below_alloc (Below.refl _ _) _
  have y2 : w2.heap.size = w1.heap.size + 1 := by rw [← hw2]; simp
  have R2 := Lib.hid (hw2 ▸ RowAt.new _ _ w1 : RowAt 44 w1.heap.size [.slice ao r.length cap] w2)
  have R02 := Lib.hid ((R0.out.below hB).below b12)
  have B2 := Lib.hid (below_trans B0.out (below_trans hB b12))
  have GLT := Lib.hid (show ∀ b, ob (.slice ao r.length cap) = some b → b < w1.heap.size from fun b hb => (hcr.in_ b hb).2)
  have OU := Lib.hid (show OwnU KPr w2 w0.heap.size (.slice ao r.length cap) r vss 0 from ⟨HL.out, hcr.below b12, fun _ _ _ h => absurd h (Nat.not_lt_zero _), fun _ _ _ _ _ h => absurd h (Nat.not_lt_zero _), fun _ _ _ _ _ _ _ _ h => absurd h (Nat.not_lt_zero _)⟩)
  have Y2 := Lib.hid y2
  have LE1 := Lib.hid (show w0.heap.size ≤ w1.heap.size from hB.size)
  have q2 := row_cell R2.out
  clear hcr hB b12 y2 H hw0 hP0 hP
  go_wp2_with fail
  clear q2 hw2
  go_loopw [15] (fun i wr => ∃ (k : Nat) (vs : List (List Value)), i = .int .i64 k ∧ k ≤ r.length ∧ OwnU KPr wr w0.heap.size (.slice ao r.length cap) r vs k ∧ (∀ j (h : j < vss.length) (h' : j < vs.length), k ≤ j → vs[j] = vss[j]) ∧ RowAt 44 w.heap.size [.slice none 0 0] wr ∧ RowAt 44 w1.heap.size [.slice ao r.length cap] wr ∧ Below w.heap.size w wr ∧ w2.heap.size ≤ wr.heap.size) (fun i _ => r.length - (intOf i).toNat)
  case atStart => exact ⟨0, vss, rfl, Nat.zero_le _, OU.out, fun _ _ _ _ => rfl, R02.out, R2.out, B2.out, Nat.le_refl _⟩
  case round =>
    obtain ⟨k, vs, rfl, hk, hu, hsame, h0, h2, hb, hsz⟩ := hrel
    have q2 := row_cell h2
    have HU := Lib.hid hu
    have HSM := Lib.hid hsame
    have H0 := Lib.hid h0
    have H2 := Lib.hid h2
    have HB := Lib.hid hb
    have HSZ := Lib.hid hsz
    clear OU R02 R2 B2 hu hsame h0 h2 hb hsz
    by_cases hlt : k < r.length
    case neg =>
      obtain rfl : k = r.length := by omega
      have hg := OwnU.done HU.out
      have hch : Chg (fun b => b = w.heap.size) wr (wr.setCell ⟨w.heap.size, 0, none⟩ (.slice ao r.length cap)) := Chg.put (S := fun b => b = w.heap.size) (Chg.refl _ wr) (a := ⟨w.heap.size, 0, none⟩) rfl _
      have F1 := Lib.hid (OwnG.mono (OwnG.chg hg hch (fun u hu b hb e => by have := (OwnG.lo hg u hu b hb).1; have := Y0.out; omega)) (show w.heap.size ≤ w0.heap.size by have := Y0.out; omega))
      have F2 := Lib.hid (Below.setCell HB.out (p := ⟨w.heap.size, 0, none⟩) (Nat.le_refl _) (.slice ao r.length cap))
      have c1 := row_cell H0.out
      have f1 := H0.out.free 0
      have e1 := World.cell?_setCell_same (w := wr) (a := ⟨w.heap.size, 0, none⟩) (v := .slice ao r.length cap) (h := c1)
      clear hg hch
      go_wp2_with fail
      exact bodyPost_ret (v := .agg #[.slice ao r.length cap]) (by simp [results, Tryd.results48, go_sem, e1]) rfl ⟨ao, cap, _, rfl, F1.out, F2.out⟩
    have hvl := HU.out.len
    have hkv : k < vs.length := by omega
    have hkv0 : k < vss.length := by have := HL.out; omega
    obtain ⟨A1, n1, A2, n2, A3, n3, ev, s1, s2, s3⟩ := HV.out k hlt hkv0
    have ev' := (HSM.out k hkv0 hkv (Nat.le_refl _)).trans ev
    obtain ⟨g, off, eA, hg1, hg2, hob, hcc⟩ := HU.out.cell (by decide) hlt
    subst eA
    have cc := fun j (hj : j < 4) => hcc k hlt hkv j hj
    have d1 := (cc 1 (by decide)).1
    have d2 := (cc 2 (by decide)).1
    have d3 := (cc 3 (by decide)).1
    simp only [KPr, ev', List.getElem_cons_zero, List.getElem_cons_succ, List.getD_cons_zero, List.getD_cons_succ] at d1 d2 d3
    obtain ⟨y1, y2, y3⟩ := HZ.out.2 _ (List.getElem_mem hlt)
    obtain ⟨f, hf⟩ : ∃ f, r[k] = f := ⟨_, rfl⟩
    rw [hf] at d1 d2 d3 s1 s2 s3 y1 y2 y3 ev'
    have HF := Lib.hid hf
    have HC1 := Lib.hid (show ∀ W', Below wr.heap.size wr W' → Calls Tryd.prog 77 #[.slice A1 f.jumps.length n1] W' (CloneE 3 1 f.jumps.length (intsV f.jumps) W') from fun W' h => cloneI_any A1 n1 f.jumps W' (s1.below (below_trans HB.out h)) y1)
    have HC2 := Lib.hid (show ∀ W', Below wr.heap.size wr W' → Calls Tryd.prog 77 #[.slice A2 f.falls.length n2] W' (CloneE 3 1 f.falls.length (intsV f.falls) W') from fun W' h => cloneI_any A2 n2 f.falls W' (s2.below (below_trans HB.out h)) y2)
    have HC3 := Lib.hid (show ∀ W', Below wr.heap.size wr W' → Calls Tryd.prog 78 #[.slice A3 f.args.length n3] W' (CloneE 52 3 f.args.length (argsV f.args) W') from fun W' h => cloneA_any A3 n3 f.args W' (s3.below (below_trans HB.out h)) y3)
    have EV := Lib.hid ev'
    have OB := Lib.hid hob
    have D1 := Lib.hid d1
    have D2 := Lib.hid d2
    have D3 := Lib.hid d3
    have CC := Lib.hid cc
    have HG2 := Lib.hid hg2
    clear ev ev' s1 s2 s3 y1 y2 y3 hf hcc cc hg1 hg2 hob hvl
    go_upto_region 6 with fail
    go_region_with
      (first | ((go_at_call 77; (with_reducible refine (HC1.out _ (below_drw (Below.refl _ _))).mono ?_); rintro e wj ⟨aj, cj, rfl, hcj, hbj⟩; have HCJ := Lib.hid hcj; have HBJ := Lib.hid hbj; have HWJ := Lib.hid (below_trans (below_drw (Below.refl wr.heap.size wr)) hbj); have t1 := cell_below HWJ.out d1; have t2 := cell_below HWJ.out d2; have t3 := cell_below HWJ.out d3; clear hcj hbj)) | ((go_at_call 77; (with_reducible refine (HC2.out _ HWJ.out).mono ?_); rintro e wf ⟨af, cf, rfl, hcf, hbf⟩; have HCF := Lib.hid hcf; have HBF := Lib.hid hbf; have HWF := Lib.hid (below_trans HWJ.out hbf); have u1 := cell_below HWF.out d1; have u2 := cell_below HWF.out d2; have u3 := cell_below HWF.out d3; clear hcf hbf)) | ((go_at_call 78; (with_reducible refine (HC3.out _ HWF.out).mono ?_); rintro e wa ⟨aa, ca, rfl, hca, hba⟩; have HCA := Lib.hid hca; have HBA := Lib.hid hba; have HWA := Lib.hid (below_trans HWF.out hba); have x1 := cell_below HWA.out d1; have x2 := cell_below HWA.out d2; have x3 := cell_below HWA.out d3; have z1 : wa.frozen? ⟨g, off + k * 4 + 1, none⟩ = false := (by rw [HWA.out.frozen (p := ⟨g, off + k * 4 + 1, none⟩) HG2.out]; exact (CC.out 1 (by decide)).2); have z2 : wa.frozen? ⟨g, off + k * 4 + 2, none⟩ = false := (by rw [HWA.out.frozen (p := ⟨g, off + k * 4 + 2, none⟩) HG2.out]; exact (CC.out 2 (by decide)).2); have z3 : wa.frozen? ⟨g, off + k * 4 + 3, none⟩ = false := (by rw [HWA.out.frozen (p := ⟨g, off + k * 4 + 3, none⟩) HG2.out]; exact (CC.out 3 (by decide)).2); clear hca hba)))
    all_goals
      have hB1 : Build wj wr.heap.size [.slice aj f.jumps.length cj] [innI f.jumps] := Build.add (Build.nil wr.drew wr.heap.size) HBJ.out (Nat.le_refl _) HCJ.out
      have hB2 : Build wf wr.heap.size [.slice aj f.jumps.length cj, .slice af f.falls.length cf] [innI f.jumps, innI f.falls] := Build.add hB1 HBF.out HWJ.out.size HCF.out
      have hB3 : Build wa wr.heap.size [.slice aj f.jumps.length cj, .slice af f.falls.length cf, .slice aa f.args.length ca] [innI f.jumps, innI f.falls, innA f.args] := Build.add hB2 HBA.out HWF.out.size HCA.out
      have hst := OwnPrU.step HU.out hlt HWA.out (by rw [HF.out]; exact hB3) (by have := HSZ.out; have := LE1.out; have := Y2.out; omega)
      have gl := GLT.out g OB.out
      have g0 : w0.heap.size ≤ g := (HU.out.row.in_ g OB.out).1
      have kc : Chg (fun b => b = g) wa (((wa.setCell ⟨g, off + k * 4 + 1, none⟩ (.slice aj f.jumps.length cj)).setCell ⟨g, off + k * 4 + 2, none⟩ (.slice af f.falls.length cf)).setCell ⟨g, off + k * 4 + 3, none⟩ (.slice aa f.args.length ca)) :=
        (((Chg.refl (fun b => b = g) wa).put (a := ⟨g, off + k * 4 + 1, none⟩) rfl _).put (a := ⟨g, off + k * 4 + 2, none⟩) rfl _).put (a := ⟨g, off + k * 4 + 3, none⟩) rfl _
      have FF := Lib.hid (show (∀ j (h : j < vss.length) (h' : j < (vs.set k [.slice aj f.jumps.length cj, .slice af f.falls.length cf, .slice aa f.args.length ca]).length), k + 1 ≤ j → (vs.set k [.slice aj f.jumps.length cj, .slice af f.falls.length cf, .slice aa f.args.length ca])[j] = vss[j]) ∧ RowAt 44 w.heap.size [.slice none 0 0] _ ∧ RowAt 44 w1.heap.size [.slice (some ⟨g, off, none⟩) r.length cap] _ ∧ Below w.heap.size w _ from ⟨fun j h h' hj => by
        rw [List.getElem_set_ne (by omega)]
        exact HSM.out j h (by simpa using h') (by omega), (H0.out.below HWA.out).chg kc (by have := Y0.out; omega), (H2.out.below HWA.out).chg kc (by omega), Chg.below (below_trans HB.out HWA.out) kc (fun b e => by have := Y0.out; omega)⟩)
      have HST := Lib.hid hst
      have HSZ2 := Lib.hid (show w2.heap.size ≤ (((wa.setCell ⟨g, off + k * 4 + 1, none⟩ (.slice aj f.jumps.length cj)).setCell ⟨g, off + k * 4 + 2, none⟩ (.slice af f.falls.length cf)).setCell ⟨g, off + k * 4 + 3, none⟩ (.slice aa f.args.length ca)).heap.size by have := HSZ.out; have := HWA.out.size; have := kc.size; omega)
      clear hB1 hB2 hB3 hst kc gl g0 q2 d1 d2 d3 t1 t2 t3 u1 u2 u3 x1 x2 x3 z1 z2 z3
      go_wp2_with fail
      go_roundw
      case rel => exact ⟨k + 1, _, by go_num, by omega, HST.out, FF.out.1, FF.out.2.1, FF.out.2.2.1, FF.out.2.2.2, HSZ2.out⟩
      case measure => simp only [intOf]; omega
end Go.Proofs.YtpfgklkdldkajaaDoor
