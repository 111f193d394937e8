/- The document's 'Copy': another state that is the same, of the call's own. Conditions: the state lies in memory; no list is longer than the reach. -/
import Derived.Test.YtpfgklkdldkajaaGreatDoorRCopy
import Derived.Deep.RegionLaw
namespace Go.Proofs.YtpfgklkdldkajaaGreatDoor
open Go.RowKit

set_option maxRecDepth 100000 in
set_option maxHeartbeats 8000000 in
theorem rcopy_any (s : Stt) (A Ao : Option Addr) (c co : Nat) (w : World) (hr : ReadsS w s A Ao) (hz : FitS s) :
    Calls Tryz.prog 65 #[sttV s (.slice A s.frames.length c) (.slice Ao s.out.length co)] w (CopyE s w) := by
  obtain ⟨fs, fuel, out, done, value⟩ := s
  obtain ⟨hf, ho⟩ := hr
  obtain ⟨z1, z2, z3⟩ := hz
  unfold sttV
  simp only at hf ho z1 z2 z3 ⊢
  obtain ⟨w1, hw1⟩ : ∃ w1, w.alloc (.cells #[.slice A fs.length c, .int .i64 fuel, .slice Ao out.length co, .int .i64 done, .int .i64 value] 47) = w1 := ⟨_, rfl⟩
  obtain ⟨w2, hw2⟩ : ∃ w2, w1.alloc (.cells #[.slice none 0 0, .int .i64 0, .slice none 0 0, .int .i64 0, .int .i64 0] 47) = w2 := ⟨_, rfl⟩
  have b1 : Below w.heap.size w w1 := hw1 ▸ below_alloc (Below.refl _ _) _
  have b2 : Below w1.heap.size w1 w2 := hw2 ▸ below_alloc (Below.refl _ _) _
  have y1 : w1.heap.size = w.heap.size + 1 := by rw [← hw1]; simp
  have y2 : w2.heap.size = w.heap.size + 2 := by rw [← hw2]; simp [y1]
  have r1 : RowAt 47 w.heap.size [.slice A fs.length c, .int .i64 fuel, .slice Ao out.length co, .int .i64 done, .int .i64 value] w2 := (hw1 ▸ RowAt.new _ _ w : RowAt 47 w.heap.size _ w1).below b2
  have r2 : RowAt 47 w1.heap.size [.slice none 0 0, .int .i64 0, .slice none 0 0, .int .i64 0, .int .i64 0] w2 := hw2 ▸ RowAt.new _ _ w1
  have b02 := below_trans b1 b2
  have q0 := r1.cell (k := 0) (by simp)
  have z0 := r1.free 0
  simp only [List.getElem_cons_zero] at q0
  have hnf := hf.1
  have hno := ho.1
  obtain ⟨w3, hw3⟩ : ∃ w3, w2.setCell ⟨w.heap.size, 0, none⟩ (.slice none 0 0) = w3 := ⟨_, rfl⟩
  have kc : Chg (fun b => b = w.heap.size) w2 w3 := hw3 ▸ Chg.put (S := fun b => b = w.heap.size) (Chg.refl _ w2) (a := ⟨w.heap.size, 0, none⟩) rfl _
  have R1 := Lib.hid (show RowAt 47 w.heap.size [.slice none 0 0, .int .i64 fuel, .slice Ao out.length co, .int .i64 done, .int .i64 value] w3 from hw3 ▸ r1.put 0 (.slice none 0 0))
  have R2 := Lib.hid (r2.chg kc (by omega))
  have B3 := Lib.hid (Chg.below b02 kc (fun b e => by omega))
  have Y := Lib.hid (And.intro y1 y2)
  have S3 := Lib.hid (show w2.heap.size = w3.heap.size by rw [← hw3]; simp)
  have HF := Lib.hid hf
  have HO := Lib.hid ho
  have Z1 := Lib.hid z1
  have Z2 := Lib.hid z2
  have Z3 := Lib.hid z3
  clear b1 b2 y1 y2 r1 r2 b02 kc hf ho z1 z2 z3
  go_enter Tryz.func65, Tryz.ntmps65
  go_upto_region 4 with fail
  clear hw1 hw2 hw3 q0 z0
  go_loopw [4] (fun i wr => ∃ (k : Nat) (v : Value) (vss : List (List Value)), i = .int .i64 k ∧ k ≤ fs.length ∧ OwnFr wr w2.heap.size v (fs.take k) vss ∧ RowAt 47 w.heap.size [v, .int .i64 fuel, .slice Ao out.length co, .int .i64 done, .int .i64 value] wr ∧
      RowAt 47 w1.heap.size [.slice none 0 0, .int .i64 0, .slice none 0 0, .int .i64 0, .int .i64 0] wr ∧ Below w.heap.size w wr ∧ w2.heap.size ≤ wr.heap.size) (fun i _ => fs.length - (intOf i).toNat)
  case atStart => exact ⟨0, _, _, rfl, Nat.zero_le _, OwnG.nil _ _ _, R1.out, R2.out, B3.out, Nat.le_of_eq S3.out⟩
  case round =>
    obtain ⟨k, v, vss, rfl, hk, how, h1, h2, hb, hsz⟩ := hrel
    clear R1 R2 B3 S3
    have hkl : (fs.take k).length = k := by simp; omega
    obtain ⟨av, cv, ev, _, _⟩ := how.row.shape
    rw [hkl] at ev
    subst ev
    have c0 := h1.cell (k := 0) (by simp)
    have c0z := h1.free 0
    simp only [List.getElem_cons_zero] at c0
    have HOW := Lib.hid how
    have H1 := Lib.hid h1
    have H2 := Lib.hid h2
    have HB := Lib.hid hb
    have HSZ := Lib.hid hsz
    have HKL := Lib.hid hkl
    clear how h1 h2 hb hsz hkl
    by_cases hlt : k < fs.length
    · obtain ⟨ad, eA, d0, d1, ⟨L1, cl, d2, rl⟩, L2, cs, d3, rs⟩ := (HF.out.at_ HB.out hlt)
      subst eA
      obtain ⟨zl, zs⟩ := Z3.out _ (List.getElem_mem hlt)
      obtain ⟨f, ef⟩ : ∃ f, fs[k] = f := ⟨_, rfl⟩
      rw [ef] at d0 d1 d2 d3 rl rs zl zs
      have EF := Lib.hid ef
      have bd : Below wr.heap.size wr wr.drew := below_drw (Below.refl _ _)
      have HCF := Lib.hid (rcopyFrame_any f L1 L2 cl cs wr.drew (rl.below bd) (rs.below bd) zl zs)
      obtain ⟨ii, hi, hz0, hsz, hbb⟩ := info_parts info_frame
      have HAPP := Lib.hid (show ∀ (w4 : World) (al : Option Addr) (lc : Nat) (asl : Option Addr) (sc : Nat), InnAt w4 wr.heap.size (.slice al f.locals.length lc) (innI f.locals) → InnAt w4 wr.heap.size (.slice asl f.stack.length sc) (innI f.stack) → (∀ b, ob (.slice al f.locals.length lc) = some b → ob (.slice asl f.stack.length sc) ≠ some b) → Below wr.heap.size wr w4 →
          ∃ ao' cap' w6 w9, (Builtin.append_ #[45, 45] 45 #[.slice av k cv, .slice (some ⟨w4.heap.size, 0, none⟩) 1 1]).run Tryz.prog (w4.alloc (.cells #[.int .i64 f.fn, .int .i64 f.pc, .slice al f.locals.length lc, .slice asl f.stack.length sc] 68)) = .ok (.slice ao' (k + 1) cap') w6 ∧
            (w4.cell? ⟨w.heap.size, 0, none⟩ = some (.slice av k cv) ∧ (w4.alloc (.cells #[.int .i64 f.fn, .int .i64 f.pc, .slice al f.locals.length lc, .slice asl f.stack.length sc] 68)).cell? ⟨w.heap.size, 0, none⟩ = some (.slice av k cv)) ∧ w6.cell? ⟨w.heap.size, 0, none⟩ = some (.slice av k cv) ∧ w6.frozen? ⟨w.heap.size, 0, none⟩ = false ∧
            w6.setCell ⟨w.heap.size, 0, none⟩ (.slice ao' (k + 1) cap') = w9 ∧ (∃ vss9, OwnFr w9 w2.heap.size (.slice ao' (k + 1) cap') (fs.take (k + 1)) vss9) ∧ RowAt 47 w.heap.size [.slice ao' (k + 1) cap', .int .i64 fuel, .slice Ao out.length co, .int .i64 done, .int .i64 value] w9 ∧
            RowAt 47 w1.heap.size [.slice none 0 0, .int .i64 0, .slice none 0 0, .int .i64 0, .int .i64 0] w9 ∧ Below w.heap.size w w9 ∧ w2.heap.size ≤ w9.heap.size from fun w4 al lc asl sc hl hs hd hB4 => by
        have b5 := below_alloc (Below.refl w4.heap.size w4) (.cells #[.int .i64 f.fn, .int .i64 f.pc, .slice al f.locals.length lc, .slice asl f.stack.length sc] 68)
        have b35 := below_trans hB4 b5
        have S5 := OwnG.below HOW.out b35
        have rF : RowAt 68 w4.heap.size (frC f (.slice al f.locals.length lc) (.slice asl f.stack.length sc)) (w4.alloc (.cells #[.int .i64 f.fn, .int .i64 f.pc, .slice al f.locals.length lc, .slice asl f.stack.length sc] 68)) := RowAt.new _ _ w4
        have hrow := S5.row
        simp only [HKL.out] at hrow
        have hsz' := HSZ.out
        obtain ⟨v', w6, hrun, hG⟩ := run_append_crow (P := Tryz.prog) (w4.alloc (.cells #[.int .i64 f.fn, .int .i64 f.pc, .slice al f.locals.length lc, .slice asl f.stack.length sc] 68)) 45 68 45 45 ii _ 4 64 Tryz.underlying45 hi hz0 hsz hbb rfl w2.heap.size av k cv _ hrow (by have := b35.size; omega)
          (.slice (some ⟨w4.heap.size, 0, none⟩) 1 1) 1 _ (frame_src rF) (by have := Z1.out; omega) (by unfold maxLen; have := Z1.out; omega)
        obtain ⟨ao', cap', rfl, _, _⟩ := hG.row.shape
        have hold := fun u hu b e => (OwnG.lo HOW.out u hu b e).2
        have hpush := OwnFr.push (f := f) (N := wr.heap.size) S5 HKL.out hG (CRow.below (CRow.mono hl (show w2.heap.size ≤ wr.heap.size from hsz')) b5) (CRow.below (CRow.mono hs (show w2.heap.size ≤ wr.heap.size from hsz')) b5) hold (fun x e => (CRow.in_ hl x e).1) (fun x e => (CRow.in_ hs x e).1) hd
        have hno : ∀ x, ob (.slice av k cv) = some x → w2.heap.size ≤ x := fun x e => (OwnG.lo HOW.out _ (by simp) x e).1
        have hno' : ∀ u ∈ (Value.slice ao' (k + 1) cap') :: (vss ++ [[Value.slice al f.locals.length lc, Value.slice asl f.stack.length sc]]).flatten, ∀ b, ob u = some b → ¬ b = w.heap.size := fun u hu b e e2 => by
          have := (OwnG.lo hpush u hu b e).1; have := Y.out; omega
        have kc : Chg (fun b => b = w.heap.size) w6 (w6.setCell ⟨w.heap.size, 0, none⟩ (.slice ao' (k + 1) cap')) := Chg.put (S := fun b => b = w.heap.size) (Chg.refl _ w6) (a := ⟨w.heap.size, 0, none⟩) rfl _
        have t1 := (H1.out.below b35).chg hG.chg (fun e => by have := hno _ e; have := Y.out; omega)
        have t2 := ((H2.out.below b35).chg hG.chg (fun e => by have := hno _ e; have := Y.out; omega)).chg kc (show ¬ w1.heap.size = w.heap.size by have := Y.out; omega)
        have T1 := t1.put 0 (.slice ao' (k + 1) cap')
        simp only [List.set_cons_zero] at T1
        have T0 := t1.cell (k := 0) (by simp)
        simp only [List.getElem_cons_zero] at T0
        have e3 : fs.take (k + 1) = fs.take k ++ [f] := by rw [List.take_succ_eq_append_getElem hlt, EF.out]
        have a0 := H1.out.cell (k := 0) (by simp)
        simp only [List.getElem_cons_zero] at a0
        refine ⟨ao', cap', w6, _, hrun, ⟨cell_below hB4 a0, cell_below b35 a0⟩, T0, t1.free 0, rfl, ⟨_, by rw [e3]; exact hpush.chg kc hno'⟩, T1, t2, ?_, ?_⟩
        · exact Below.setCell (hG.chg.below (below_trans HB.out b35) (fun b e => by have := hno b e; have := Y.out; omega)) (p := ⟨w.heap.size, 0, none⟩) (Nat.le_refl _) _
        · have h1 := hG.kept.size; have := b35.size; simp; omega)
      clear hi hz0 hsz hbb rl rs zl zs ef bd
      go_upto_region 6 with fail
      go_region_law (first | (refine step_append_run rfl _ _ _ _ rfl _ _ rfl rfl hrun ?_) | (rw [if_pos (by rfl)]; go_simp; go_at_call 100; (with_reducible refine HCF.out.mono ?_); rintro e w4 ⟨al, lc, asl, sc, rfl, hl, hs, hd, hB4⟩; obtain ⟨ao', cap', w6, w9, hrun, ⟨c04, c05⟩, c06, z06, hw9, hR9⟩ := HAPP.out w4 al lc asl sc hl hs hd (below_trans (below_drw (Below.refl _ _)) hB4); have R9 := Lib.hid hR9; clear hR9 hl hs hd hB4; go_simp))
      all_goals
        (try simp only [Exit.then])
        obtain ⟨⟨vss9, F1⟩, F2, F3, F4, F5⟩ := R9.out
        have HF9 := Lib.hid (And.intro F1 (And.intro F2 (And.intro F3 (And.intro F4 F5))))
        clear F1 F2 F3 F4 F5 R9
        go_wp2_with fail
        go_roundw
        all_goals first | exact ⟨k + 1, _, _, by go_num, by omega, HF9.out.1, HF9.out.2.1, HF9.out.2.2.1, HF9.out.2.2.2.1, HF9.out.2.2.2.2⟩ | (simp only [intOf]; omega)
    · have hke : fs.take k = fs := List.take_of_length_le (by omega)
      have hkn : k = fs.length := by omega
      subst hkn
      rw [hke] at HOW
      clear hke HKL hlt c0
      have h1 := H1.out
      have h2 := H2.out
      obtain ⟨ao, cap, w4, hrun4, hc4, hb4⟩ := append_copy (c := co) (HO.out.below HB.out) Z2.out
      have s1 := h1.below hb4
      have s2 := h2.below hb4
      have f2 := s1.free 2
      have g2 := s1.cell (k := 2) (by simp)
      have l2 := h1.cell (k := 2) (by simp)
      simp only [List.getElem_cons_succ, List.getElem_cons_zero] at g2 l2
      have l2 := cell_below (below_alloc (Below.refl _ _) (.cells #[] 3)) l2
      obtain ⟨w5, hw5⟩ : ∃ w5, w4.setCell ⟨w.heap.size, 2, none⟩ (.slice ao out.length cap) = w5 := ⟨_, rfl⟩
      have kc : Chg (fun b => b = w.heap.size) w4 w5 := hw5 ▸ Chg.put (S := fun b => b = w.heap.size) (Chg.refl _ w4) (a := ⟨w.heap.size, 2, none⟩) rfl _
      have R1 := Lib.hid (show RowAt 47 w.heap.size [.slice av fs.length cv, .int .i64 fuel, .slice ao out.length cap, .int .i64 done, .int .i64 value] w5 from hw5 ▸ s1.put 2 (.slice ao out.length cap))
      have r2 := s2.chg kc (show ¬ w1.heap.size = w.heap.size by have := Y.out; omega)
      have R2 := Lib.hid r2
      have B5 := Lib.hid (Chg.below (below_trans HB.out hb4) kc (fun b e => by omega))
      have pz := put5s r2 rfl (.slice av fs.length cv) (.int .i64 fuel) (.slice ao out.length cap) (.int .i64 done) (.int .i64 value)
      have EE := Lib.hid pz.1
      have BB := Lib.hid (Chg.below B5.out pz.2 (fun b e => by have := Y.out; omega))
      have lo4 := fun u hu b hb => (OwnG.lo HOW.out u hu b hb)
      have kk : Chg (fun b => b = w.heap.size ∨ b = w1.heap.size) w4 _ := (kc.mono (fun _ h => Or.inl h)).trans (pz.2.mono (fun _ h => Or.inr h)) (fun _ _ h => h)
      have OO := Lib.hid ((show OwnS _ w2.heap.size ⟨fs, fuel, out, done, value⟩ (.slice av fs.length cv) (.slice ao out.length cap) vss from
        ⟨(OwnG.below HOW.out hb4).chg kk (fun u hu b hb e => by have := (lo4 u hu b hb).1; have := Y.out; omega), (hc4.chg kk (fun b hb e => by have := (hc4.in_ b hb).1; have := HSZ.out; have := Y.out; omega)).mono (show w2.heap.size ≤ _ from HSZ.out), fun u hu b hb hb2 => by have := (lo4 u hu b hb).2; have := (hc4.in_ b hb2).1; omega⟩).mono (base' := w.heap.size) (by have := Y.out; omega))
      clear kc kk s1 s2 hc4 hb4 lo4 pz r2 h1 h2 HOW H1 H2
      go_upto_region 8 with (at_builtin; refine wpList_append_run _ rfl _ _ _ _ rfl _ _ _ _ rfl rfl hrun4 ?_)
      clear hrun4 f2 g2 l2 c0z
      have p0 := R1.out.cell (k := 0) (by simp)
      have p1 := R1.out.cell (k := 1) (by simp)
      have p2 := R1.out.cell (k := 2) (by simp)
      have p3 := R1.out.cell (k := 3) (by simp)
      have p4 := R1.out.cell (k := 4) (by simp)
      have n0 := R2.out.free 0
      have n1 := R2.out.free 1
      have n2 := R2.out.free 2
      have n3 := R2.out.free 3
      have n4 := R2.out.free 4
      have m0 := R2.out.cell (k := 0) (by simp)
      have m1 := R2.out.cell (k := 1) (by simp)
      have m2 := R2.out.cell (k := 2) (by simp)
      have m3 := R2.out.cell (k := 3) (by simp)
      have m4 := R2.out.cell (k := 4) (by simp)
      simp only [List.getElem_cons_zero, List.getElem_cons_succ] at p0 p1 p2 p3 p4 m0 m1 m2 m3 m4
      go_wp2_with fail
      exact bodyPost_ret (v := .agg #[.slice av fs.length cv, .int .i64 fuel, .slice ao out.length cap, .int .i64 done, .int .i64 value]) (by simp [results, Tryz.results65, go_sem, EE.out.1, EE.out.2.1, EE.out.2.2.1, EE.out.2.2.2.1, EE.out.2.2.2.2]) rfl
        ⟨_, _, _, rfl, OO.out, BB.out⟩
end Go.Proofs.YtpfgklkdldkajaaGreatDoor
