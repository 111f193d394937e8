/- 'CopyState' of the statements: another state that is the same, of the call's own. Conditions: the state lies in memory; no list is longer than the reach. -/
import Derived.Test.YtdjlaglilokjeaaGreatDoorSameS
namespace Go.Proofs.YtdjlaglilokjeaaGreatDoor
open Go.RowKit

theorem append_copy {W : World} {A : Option Addr} {c : Nat} {xs : List Int} (hr : ReadsI W A xs) (hz : xs.length * 8 ≤ 140737488351232) :
    ∃ ao cap W', (Builtin.append_ #[25, 25] 25 #[.slice (some ⟨W.heap.size, 0, none⟩) 0 0, .slice A xs.length c]).run Tryz.prog (W.alloc (.cells #[] 3)) = .ok (.slice ao xs.length cap) W' ∧ CRow W' W.heap.size 3 1 (.slice ao xs.length cap) xs.length (intsV xs) ∧ Below W.heap.size W W' := by
  obtain ⟨i, hi, hz0, hs, hb⟩ := info_parts info_int
  have b1 : Below W.heap.size W (W.alloc (.cells #[] 3)) := below_alloc (Below.refl _ _) _
  obtain ⟨v', W', hrun, hG⟩ := run_append_crow (P := Tryz.prog) (W.alloc (.cells #[] 3)) 25 3 25 25 i (.int .i64 0) 1 8 Tryz.underlying25 hi hz0 hs hb rfl W.heap.size (some ⟨W.heap.size, 0, none⟩) 0 0 [] (.inr ⟨rfl, rfl, _, rfl⟩) (by simp)
    (.slice A xs.length c) xs.length (intsV xs) (ints_src Tryz.underlying25 (hr.below b1) (reads_none hr)) (by omega) (by unfold maxLen; omega)
  have hrow := hG.row
  rw [Nat.zero_add, List.nil_append] at hrow
  obtain ⟨ao, cap, rfl, _, _⟩ := hrow.shape
  exact ⟨ao, cap, W', hrun, hrow, (Chg.below b1 hG.chg (fun b hb => by cases hb))⟩
/-- 'append' by its run. -/
theorem wpList_append_run {P : Program} {ops : Array Oper} {rest : List Oper} {o : Oper} {a : Act} {Q : Exit → Act → World → Prop} (w : World) (hg : o.guard = none) (s x : Operand) (ts tx : TypeId)
    (hop : o.op = Op.call { callee := Callee.builtin Builtin.append, args := #[s, x], argTypes := #[ts, tx] }) (sv xv v' : Value) (w' : World) (hs : a.eval s = sv) (hx : a.eval x = xv)
    (hrun : (Builtin.append_ #[ts, tx] o.type #[sv, xv]).run P w = .ok v' w') (h : wpList P ops Q rest (a.put o.dst v') w') : wpList P ops Q (o :: rest) a w := by
  refine wpList_plain hg fun K hK' => ?_
  unfold Oper.wp
  simp [execOp, hop, resolve, invoke, builtin, hs, hx, hrun, Result.andThen]
  exact hK' _ _ h
theorem Chg.of_keeps {g : Nat} {w w1 : World} (h : Keeps g w w1) : Chg (fun b => b = g) w w1 := Chg.of_grown h (fun _ e => by cases e; rfl)
def FitS (s : Stt) : Prop := s.frames.length * 64 ≤ 140737488351232 ∧ s.out.length * 8 ≤ 140737488351232 ∧ ∀ f ∈ s.frames, f.locals.length * 8 ≤ 140737488351232 ∧ f.stack.length * 8 ≤ 140737488351232
theorem info_frame : (Tryz.prog.info? 27).map (fun i => (i.zero, i.size, i.bytes)) = some (some (.agg #[.int .i64 0, .int .i64 0, .slice none 0 0, .slice none 0 0]), 4, 64) := by kernel_rfl
/-- A call that answers a state of its own. -/
def CopyE (s : Stt) (w : World) (e : Ending) (w' : World) : Prop := ∃ fv ov vss, e = .returned (sttV s fv ov) ∧ OwnS w' w.heap.size s fv ov vss ∧ Below w.heap.size w w'
set_option maxRecDepth 100000 in
set_option maxHeartbeats 4000000 in
theorem copyState_any (s : Stt) (A Ao : Option Addr) (c co : Nat) (w : World) (hr : ReadsS w s A Ao) (hz : FitS s) :
    Calls Tryz.prog 5 #[sttV s (.slice A s.frames.length c) (.slice Ao s.out.length co)] w (CopyE s w) := by
  obtain ⟨fs, fuel, out, done, value⟩ := s
  obtain ⟨hf, ho⟩ := hr
  obtain ⟨z1, z2, z3⟩ := hz
  unfold sttV
  simp only at hf ho z1 z2 z3 ⊢
  obtain ⟨w1, hw1⟩ : ∃ w1, w.alloc (.cells #[.slice A fs.length c, .int .i64 fuel, .slice Ao out.length co, .int .i64 done, .int .i64 value] 30) = w1 := ⟨_, rfl⟩
  obtain ⟨w2, hw2⟩ : ∃ w2, w1.alloc (.cells #[.slice none 0 0, .int .i64 0, .slice none 0 0, .int .i64 0, .int .i64 0] 30) = w2 := ⟨_, rfl⟩
  obtain ⟨w3, hw3⟩ : ∃ w3, w2.alloc (.cells #[.slice none 0 0, .int .i64 fuel, .slice Ao out.length co, .int .i64 done, .int .i64 value] 30) = w3 := ⟨_, rfl⟩
  have b1 : Below w.heap.size w w1 := hw1 ▸ below_alloc (Below.refl _ _) _
  have b2 : Below w1.heap.size w1 w2 := hw2 ▸ below_alloc (Below.refl _ _) _
  have b3 : Below w2.heap.size w2 w3 := hw3 ▸ below_alloc (Below.refl _ _) _
  have y1 : w1.heap.size = w.heap.size + 1 := by rw [← hw1]; simp
  have y2 : w2.heap.size = w.heap.size + 2 := by rw [← hw2]; simp [y1]
  have y3 : w3.heap.size = w.heap.size + 3 := by rw [← hw3]; simp [y2]
  have r1 : RowAt 30 w.heap.size [.slice A fs.length c, .int .i64 fuel, .slice Ao out.length co, .int .i64 done, .int .i64 value] w3 := ((hw1 ▸ RowAt.new _ _ w : RowAt 30 w.heap.size _ w1).below b2).below b3
  have r2 : RowAt 30 w1.heap.size [.slice none 0 0, .int .i64 0, .slice none 0 0, .int .i64 0, .int .i64 0] w3 := (hw2 ▸ RowAt.new _ _ w1 : RowAt 30 w1.heap.size _ w2).below b3
  have r3 : RowAt 30 w2.heap.size [.slice none 0 0, .int .i64 fuel, .slice Ao out.length co, .int .i64 done, .int .i64 value] w3 := hw3 ▸ RowAt.new _ _ w2
  have b03 := below_trans (below_trans b1 b2) b3
  obtain ⟨ao, cap, w4, hrun4, hc4, hb4⟩ := append_copy (c := co) (ho.below b03) z2
  have e1 := (hw1 ▸ RowAt.new _ _ w : RowAt 30 w.heap.size [.slice A fs.length c, .int .i64 fuel, .slice Ao out.length co, .int .i64 done, .int .i64 value] w1).below b2
  have q0 := e1.cell (k := 0) (by simp)
  have q1 := e1.cell (k := 1) (by simp)
  have q2 := e1.cell (k := 2) (by simp)
  have q3 := e1.cell (k := 3) (by simp)
  have q4 := e1.cell (k := 4) (by simp)
  have s1 := r1.below hb4
  have s2 := r2.below hb4
  have s3 := r3.below hb4
  have f2 := s3.free 2
  have g2 := s3.cell (k := 2) (by simp)
  have l2 := r1.cell (k := 2) (by simp)
  simp only [List.getElem_cons_succ, List.getElem_cons_zero] at q0 q1 q2 q3 q4 g2 l2
  have l2 := cell_below (below_alloc (Below.refl _ _) (.cells #[] 3)) l2
  have hnf := hf.1
  have hno := ho.1
  have Y1 := Lib.hid y1
  have Y2 := Lib.hid y2
  have Y3 := Lib.hid y3
  have HF := Lib.hid hf
  have Z1 := Lib.hid z1
  have Z3 := Lib.hid z3
  have B03 := Lib.hid b03
  have HB4 := Lib.hid hb4
  have HC4 := Lib.hid hc4
  have p3 := s3.put 2 (.slice ao out.length cap)
  simp only [List.set_cons_zero, List.set_cons_succ] at p3
  have kp : Keeps w2.heap.size w4 (w4.setCell ⟨w2.heap.size, 2, none⟩ (.slice ao out.length cap)) := Keeps.put (Keeps.refl _ w4) 2 _
  have S1 := Lib.hid (s1.keeps kp (by omega))
  have S2 := Lib.hid (s2.keeps kp (by omega))
  have S3 := Lib.hid p3
  have hch : Chg (fun b => b = w2.heap.size) w4 (w4.setCell ⟨w2.heap.size, 2, none⟩ (.slice ao out.length cap)) := Chg.put (S := fun b => b = w2.heap.size) (Chg.refl _ w4) (a := ⟨w2.heap.size, 2, none⟩) rfl _
  have HC5 := Lib.hid (hc4.chg hch (fun b hb e => by have := hc4.in_ b hb; omega))
  have B5 := Lib.hid (Below.setCell (below_trans b03 hb4) (p := ⟨w2.heap.size, 2, none⟩) (by simp; omega) (.slice ao out.length cap))
  clear kp y1 y2 y3 hf ho z1 z2 z3 b1 b2 b3 b03 hb4 hc4 e1 r1 r2 r3 s1 s2 s3 p3 hch
  go_enter Tryz.func5, Tryz.ntmps5
  go_wp2_with (at_builtin; refine wpList_append_run _ rfl _ _ _ _ rfl _ _ _ _ rfl rfl hrun4 ?_)
  have HOW := Lib.hid (show OwnS (w4.setCell ⟨w2.heap.size, 2, none⟩ (.slice ao out.length cap)) w3.heap.size ⟨fs.take 0, fuel, out, done, value⟩ (.slice none 0 0) (.slice ao out.length cap) [] from ⟨OwnG.nil _ _ _, HC5.out, fun u hu b hb e => by
    have e1 : u = .slice none 0 0 := by simpa using hu
    subst e1; cases hb⟩)
  have HSZ5 := Lib.hid (show w3.heap.size ≤ (w4.setCell ⟨w2.heap.size, 2, none⟩ (.slice ao out.length cap)).heap.size by have := HB4.out.size; simpa using this)
  clear q0 q1 q2 q3 q4 f2 g2 l2 hrun4 hw1 hw2 hw3
  go_loopw [4] (fun i wr => ∃ (k : Nat) (v : Value) (vss : List (List Value)), i = .int .i64 k ∧ k ≤ fs.length ∧ OwnS wr w3.heap.size ⟨fs.take k, fuel, out, done, value⟩ v (.slice ao out.length cap) vss ∧ RowAt 30 w.heap.size [.slice A fs.length c, .int .i64 fuel, .slice Ao out.length co, .int .i64 done, .int .i64 value] wr ∧
      RowAt 30 w1.heap.size [.slice none 0 0, .int .i64 0, .slice none 0 0, .int .i64 0, .int .i64 0] wr ∧ RowAt 30 w2.heap.size [v, .int .i64 fuel, .slice ao out.length cap, .int .i64 done, .int .i64 value] wr ∧ Below w.heap.size w wr ∧ w3.heap.size ≤ wr.heap.size) (fun i _ => fs.length - (intOf i).toNat)
  case atStart => exact ⟨0, _, _, rfl, Nat.zero_le _, HOW.out, S1.out, S2.out, S3.out, B5.out, HSZ5.out⟩
  case round =>
    obtain ⟨k, v, vss, rfl, hk, how, h0, h1, h2, hb, hsz⟩ := hrel
    clear HOW HSZ5 S1 S2 S3 HC5 B5 HB4 HC4
    have c0 := h0.cell (k := 0) (by simp)
    simp only [List.getElem_cons_zero] at c0
    have HOW := Lib.hid how
    have H0 := Lib.hid h0
    have H1 := Lib.hid h1
    have H2 := Lib.hid h2
    have HB := Lib.hid hb
    have HSZ := Lib.hid hsz
    by_cases hlt : k < fs.length
    · obtain ⟨ad, eA, d0, d1, ⟨L1, cl, d2, rl⟩, L2, cs, d3, rs⟩ := (HF.out.at_ hb hlt)
      subst eA
      obtain ⟨zl, zs⟩ := Z3.out _ (List.getElem_mem hlt)
      obtain ⟨f, ef⟩ : ∃ f, fs[k] = f := ⟨_, rfl⟩
      rw [ef] at d0 d1 d2 d3 rl rs zl zs
      have EF := Lib.hid ef
      obtain ⟨wA, hwA⟩ : ∃ wA, wr.alloc (.cells #[.int .i64 f.fn, .int .i64 f.pc, .slice L1 f.locals.length cl, .slice L2 f.stack.length cs] 27) = wA := ⟨_, rfl⟩
      have bA : Below wr.heap.size wr wA := hwA ▸ below_alloc (Below.refl _ _) _
      have yA : wA.heap.size = wr.heap.size + 1 := by rw [← hwA]; simp
      have rA : RowAt 27 wr.heap.size [.int .i64 f.fn, .int .i64 f.pc, .slice L1 f.locals.length cl, .slice L2 f.stack.length cs] wA := hwA ▸ RowAt.new _ _ wr
      obtain ⟨al, lc, wC, hrunC, hcC, hbC⟩ := append_copy (c := cl) (rl.below bA) zl
      obtain ⟨wD, hwD⟩ : ∃ wD, wC.setCell ⟨wr.heap.size, 2, none⟩ (.slice al f.locals.length lc) = wD := ⟨_, rfl⟩
      have rC := rA.below hbC
      have rD : RowAt 27 wr.heap.size [.int .i64 f.fn, .int .i64 f.pc, .slice al f.locals.length lc, .slice L2 f.stack.length cs] wD := hwD ▸ rC.put 2 (.slice al f.locals.length lc)
      have bD : Below wr.heap.size wr wD := hwD ▸ (below_trans bA hbC).setCell (p := ⟨wr.heap.size, 2, none⟩) (Nat.le_refl _) _
      have yD : wC.heap.size = wD.heap.size := by rw [← hwD]; simp
      have kD : Chg (fun b => b = wr.heap.size) wC wD := hwD ▸ Chg.put (S := fun b => b = wr.heap.size) (Chg.refl _ wC) (a := ⟨wr.heap.size, 2, none⟩) rfl _
      obtain ⟨asl, sc, wE, hrunE, hcE, hbE⟩ := append_copy (c := cs) (rs.below bD) zs
      obtain ⟨wF, hwF⟩ : ∃ wF, wE.setCell ⟨wr.heap.size, 3, none⟩ (.slice asl f.stack.length sc) = wF := ⟨_, rfl⟩
      have rE := rD.below hbE
      have rF : RowAt 27 wr.heap.size [.int .i64 f.fn, .int .i64 f.pc, .slice al f.locals.length lc, .slice asl f.stack.length sc] wF := hwF ▸ rE.put 3 (.slice asl f.stack.length sc)
      have bF : Below wr.heap.size wr wF := hwF ▸ (below_trans bD hbE).setCell (p := ⟨wr.heap.size, 3, none⟩) (Nat.le_refl _) _
      have yF : wE.heap.size = wF.heap.size := by rw [← hwF]; simp
      have kF : Chg (fun b => b = wr.heap.size) wE wF := hwF ▸ Chg.put (S := fun b => b = wr.heap.size) (Chg.refl _ wE) (a := ⟨wr.heap.size, 3, none⟩) rfl _
      obtain ⟨wG, hwG⟩ : ∃ wG, wF.alloc (.cells #[.int .i64 f.fn, .int .i64 f.pc, .slice al f.locals.length lc, .slice asl f.stack.length sc] 27) = wG := ⟨_, rfl⟩
      have bFG : Below wF.heap.size wF wG := hwG ▸ below_alloc (Below.refl _ _) _
      have bG := below_trans bF bFG
      have rG : RowAt 27 wF.heap.size [.int .i64 f.fn, .int .i64 f.pc, .slice al f.locals.length lc, .slice asl f.stack.length sc] wG := hwG ▸ RowAt.new _ _ wF
      have kCG : Chg (fun b => b = wr.heap.size) wC wG := (((kD.after hbE).trans kF (fun _ _ h => h)).after bFG)
      have kEG : Chg (fun b => b = wr.heap.size) wE wG := kF.after bFG
      have cl' := (hcC.chg kCG (fun b hb e => by have := (hcC.in_ b hb).1; omega)).mono (show w3.heap.size ≤ _ by omega)
      have cs' := (hcE.chg kEG (fun b hb e => by have := (hcE.in_ b hb).1; have := hbC.size; omega)).mono (show w3.heap.size ≤ _ by have := hbC.size; omega)
      have lol := fun b hb => (hcC.in_ b hb)
      have los := fun b hb => (hcE.in_ b hb)
      have hsrc : Src Tryz.prog 4 28 (.slice (some ⟨wF.heap.size, 0, none⟩) 1 1) 1 [.int .i64 f.fn, .int .i64 f.pc, .slice al f.locals.length lc, .slice asl f.stack.length sc] wG :=
        Src.ofSlice _ Tryz.underlying28 _ 1 1 _ rfl (fun j u hu => by
          obtain ⟨hj, rfl⟩ := List.getElem?_eq_some_iff.1 hu
          rw [add_plain]
          exact rG.cell (k := j) hj) (fun u hu => by
          simp at hu
          rcases hu with rfl | rfl | rfl | rfl <;> rfl)
      have howG := how.below bG
      have l2 := h0.below bA
      have d2' := rA.cell (k := 2) (by simp)
      have fC := rC.free 2
      have gC := rC.cell (k := 2) (by simp)
      have gD := rD.cell (k := 3) (by simp)
      have fE := rE.free 3
      have gE := rE.cell (k := 3) (by simp)
      have gF0 := rF.cell (k := 0) (by simp)
      have gF1 := rF.cell (k := 1) (by simp)
      have gF2 := rF.cell (k := 2) (by simp)
      have gF3 := rF.cell (k := 3) (by simp)
      have gF := (h2.below bF).cell (k := 0) (by simp)
      have dA2 := cell_below (below_alloc (Below.refl _ _) (.cells #[] 3)) d2'
      have dD3 := cell_below (below_alloc (Below.refl _ _) (.cells #[] 3)) gD
      simp only [List.getElem_cons_zero, List.getElem_cons_succ] at d2' gC gD gE gF0 gF1 gF2 gF3 gF dA2 dD3
      have HRUNE := Lib.hid hrunE
      have HSRC := Lib.hid hsrc
      have HOWG := Lib.hid howG
      have HCL := Lib.hid cl'
      have HCS := Lib.hid cs'
      have LOL := Lib.hid lol
      have LOS := Lib.hid los
      have BG := Lib.hid bG
      have YY := Lib.hid (And.intro yA (And.intro yD (And.intro yF (And.intro hbC.size hbE.size))))
      have H0G := Lib.hid (h0.below bG)
      have H1G := Lib.hid (h1.below bG)
      have H2G := Lib.hid (h2.below bG)
      have LT := Lib.hid (And.intro (blk_lt h0) (And.intro (blk_lt h1) (blk_lt h2)))
      clear how h0 h1 h2 hb hsz rl rs zl zs ef bA yA rA hcC hbC rC rD bD yD kD hcE hbE rE rF bF yF kF bFG bG rG kCG kEG cl' cs' lol los hsrc howG l2 hrunE
      go_upto_region 9 with (at_builtin; refine wpList_append_run _ rfl _ _ _ _ rfl _ _ _ _ rfl rfl hrunC ?_)
      have hrunE := HRUNE.out
      go_upto_region 10 with (at_builtin; refine wpList_append_run _ rfl _ _ _ _ rfl _ _ _ _ rfl rfl hrunE ?_)
      obtain ⟨i0, hi0, hz0, hs0, hb0⟩ := info_parts info_frame
      have HI0 := Lib.hid hi0
      have HZ0 := Lib.hid hz0
      have HS0 := Lib.hid hs0
      have HBY := Lib.hid hb0
      have hkl : (fs.take k).length = k := by simp; omega
      have hrow := HOWG.out.fr.row
      simp only [hkl] at hrow
      have HROW := Lib.hid hrow
      have HKL := Lib.hid hkl
      have HVLO := Lib.hid (show ∀ b, ob v = some b → w3.heap.size ≤ b ∧ b < wG.heap.size from fun b hb => HOWG.out.fr.lo v (by simp) b hb)
      have zf := Z1.out
      clear hi0 hz0 hs0 hb0 hkl hrow hrunC hrunE
      go_wp2_with (at_builtin; refine wpList_append_crow _ rfl _ _ 28 28 27 rfl i0 _ 4 64 Tryz.underlying28 HI0.out HZ0.out HS0.out HBY.out rfl w3.heap.size v k _ rfl HROW.out ?c1 _ 1 _ rfl HSRC.out ?c2 ?c3 ?_; rotate_left 3; intro v' wH hG; obtain ⟨ao', cap', hv', hle', hmx'⟩ := hG.row.shape; subst hv'; have t2 := H2G.out.chg hG.chg (fun e => by have := (HVLO.out _ e).1; have := Y2.out; have := Y3.out; omega); have T1 := t2.cell (k := 0) (by simp); have T2 := t2.free 0; simp only [List.getElem_cons_zero] at T1; have HG := Lib.hid hG; have HT2 := Lib.hid t2; clear hG t2)
      case c1 => have := HSZ.out; have := BG.out.size; omega
      case c2 => omega
      case c3 => unfold maxLen; omega
      have hG := HG.out
      have yv := YY.out
      have lt := LT.out
      have e3 : fs.take (k + 1) = fs.take k ++ [f] := by rw [List.take_succ_eq_append_getElem hlt, EF.out]
      have kI : Chg (fun b => b = w2.heap.size) wH (wH.setCell ⟨w2.heap.size, 0, none⟩ (.slice ao' (k + 1) cap')) := Chg.put (S := fun b => b = w2.heap.size) (Chg.refl _ wH) (a := ⟨w2.heap.size, 0, none⟩) rfl _
      have hbv : ∀ b, ob v = some b → b < wr.heap.size := fun b hb => by
        have := (HOW.out.fr.lo v (by simp) b hb).2; exact this
      have hbu : ∀ u ∈ v :: vss.flatten, ∀ b, ob u = some b → b < wr.heap.size := fun u hu b hb => (HOW.out.fr.lo u hu b hb).2
      have hbo : ∀ b, ob (.slice ao out.length cap) = some b → b < wr.heap.size := fun b hb => (HOW.out.out.in_ b hb).2
      have grow : OwnFr wH w3.heap.size (.slice ao' (k + 1) cap') (fs.take k ++ [f]) (vss ++ [[.slice al f.locals.length lc, .slice asl f.stack.length sc]]) := by
        refine OwnG.grow (x := f) HOWG.out.fr (by rw [HKL.out]; exact hG) rfl (fun j hj hj' => ?_) (fun j hj b hb hb2 => ?_) (fun j hj j' hj' hne b hb hb2 => ?_) (fun j hj b hb q hq p hp hb2 => ?_)
        · match j, hj with
          | 0, _ => exact HCL.out
          | 1, _ => exact HCS.out
        · have := hbv b hb2
          match j, hj with
          | 0, _ => have := LOL.out b hb; omega
          | 1, _ => have := LOS.out b hb; omega
        · match j, hj, j', hj' with
          | 0, _, 0, _ => exact absurd rfl hne
          | 0, _, 1, _ => have := LOL.out b hb; have := LOS.out b hb2; omega
          | 1, _, 0, _ => have := LOS.out b hb; have := LOL.out b hb2; omega
          | 1, _, 1, _ => exact absurd rfl hne
        · have := hbu _ (List.mem_cons_of_mem _ (List.mem_flatten.2 ⟨_, List.getElem_mem hq, List.getElem_mem hp⟩)) b hb2
          match j, hj with
          | 0, _ => have := LOL.out b hb; omega
          | 1, _ => have := LOS.out b hb; omega
      have lo2 : ∀ u ∈ (Value.slice ao' (k + 1) cap') :: (vss ++ [[Value.slice al f.locals.length lc, Value.slice asl f.stack.length sc]]).flatten, ∀ b, ob u = some b → ¬ b = w2.heap.size := fun u hu b hb e => by
        have := (grow.lo u hu b hb).1
        have := Y2.out; have := Y3.out; omega
      have F1 : OwnS (wH.setCell ⟨w2.heap.size, 0, none⟩ (.slice ao' (k + 1) cap')) w3.heap.size ⟨fs.take (k + 1), fuel, out, done, value⟩ (.slice ao' (k + 1) cap') (.slice ao out.length cap) (vss ++ [[Value.slice al f.locals.length lc, Value.slice asl f.stack.length sc]]) := by
        refine ⟨by rw [e3]; exact grow.chg kI lo2, ((HOWG.out.out.chg hG.chg (fun b hb e => HOWG.out.sep v (by simp) b e hb)).chg kI (fun b hb e => by have := (HOWG.out.out.in_ b hb).1; have := Y2.out; have := Y3.out; omega)), fun u hu b hb hb2 => ?_⟩
        rcases List.mem_cons.1 hu with rfl | hu
        · rcases hG.at_ b hb with h | h
          · exact HOWG.out.sep v (by simp) b h hb2
          · have := hbo b hb2; have := BG.out.size; omega
        · rw [List.flatten_append] at hu
          rcases List.mem_append.1 hu with hu | hu
          · exact HOWG.out.sep u (by simp [hu]) b hb hb2
          · have := hbo b hb2
            simp at hu
            rcases hu with rfl | rfl
            · have := LOL.out b hb; omega
            · have := LOS.out b hb; omega
      have F2 := (H0G.out.chg hG.chg (fun e => by have := (HVLO.out _ e).1; have := Y2.out; have := Y3.out; omega)).chg kI (by have := Y2.out; omega)
      have F3 := (H1G.out.chg hG.chg (fun e => by have := (HVLO.out _ e).1; have := Y1.out; have := Y2.out; have := Y3.out; omega)).chg kI (by have := Y1.out; have := Y2.out; omega)
      have F4 := HT2.out.put 0 (.slice ao' (k + 1) cap')
      simp only [List.set_cons_zero] at F4
      have F5 := Below.setCell ((hG.chg.below (below_trans HB.out BG.out) (fun b hb => by have := (HVLO.out b hb).1; have := Y3.out; omega))) (p := ⟨w2.heap.size, 0, none⟩) (by have := Y2.out; simp; omega) (.slice ao' (k + 1) cap')
      have F6 : w3.heap.size ≤ (wH.setCell ⟨w2.heap.size, 0, none⟩ (.slice ao' (k + 1) cap')).heap.size := by have h1 := hG.kept.size; have := BG.out.size; have := HSZ.out; simp; omega
      have HF := Lib.hid (And.intro F1 (And.intro F2 (And.intro F3 (And.intro F4 (And.intro F5 F6)))))
      clear F1 F2 F3 F4 F5 F6 hG grow kI hbv hbu hbo lo2 T1 T2 yv lt e3
      go_wp2_with fail
      go_roundw
      case rel => exact ⟨k + 1, _, _, by go_num, by omega, HF.out.1, HF.out.2.1, HF.out.2.2.1, HF.out.2.2.2.1, HF.out.2.2.2.2.1, HF.out.2.2.2.2.2⟩
      case measure => simp only [intOf]; omega
    · have hke : fs.take k = fs := List.take_of_length_le (by omega)
      rw [hke] at HOW
      obtain ⟨A', c', A2', c2', rfl, e2, _, _⟩ := HOW.out.reads
      simp only at H2 HOW
      have p0 := h2.cell (k := 0) (by simp)
      have p1 := h2.cell (k := 1) (by simp)
      have p2 := h2.cell (k := 2) (by simp)
      have p3 := h2.cell (k := 3) (by simp)
      have p4 := h2.cell (k := 4) (by simp)
      have f0 := h1.free 0
      have f1 := h1.free 1
      have f2 := h1.free 2
      have f3 := h1.free 3
      have f4 := h1.free 4
      have g0 := h1.cell (k := 0) (by simp)
      have g1 := h1.cell (k := 1) (by simp)
      have g2 := h1.cell (k := 2) (by simp)
      have g3 := h1.cell (k := 3) (by simp)
      have g4 := h1.cell (k := 4) (by simp)
      simp only [List.getElem_cons_zero, List.getElem_cons_succ] at p0 p1 p2 p3 p4 g0 g1 g2 g3 g4
      have pz := put5 h1 rfl (.slice A' fs.length c') (.int .i64 fuel) (.slice ao out.length cap) (.int .i64 done) (.int .i64 value)
      have yy := Y1.out
      have yz := Y3.out
      have EE := Lib.hid pz.1
      have KB := Lib.hid (below_keep hb pz.2 (by omega))
      have OO := Lib.hid ((show OwnS (((((wr.setCell ⟨w1.heap.size, 0, none⟩ (.slice A' fs.length c')).setCell ⟨w1.heap.size, 1, none⟩ (.int .i64 fuel)).setCell ⟨w1.heap.size, 2, none⟩ (.slice ao out.length cap)).setCell ⟨w1.heap.size, 3, none⟩ (.int .i64 done)).setCell ⟨w1.heap.size, 4, none⟩ (.int .i64 value)) w3.heap.size ⟨fs, fuel, out, done, value⟩ (.slice A' fs.length c') (.slice ao out.length cap) vss from
        ⟨HOW.out.fr.chg (Chg.of_keeps pz.2) (fun u hu b hb e => by have := (HOW.out.fr.lo u hu b hb).1; omega), HOW.out.out.chg (Chg.of_keeps pz.2) (fun b hb e => by have := (HOW.out.out.in_ b hb).1; omega), HOW.out.sep⟩).mono (base' := w.heap.size) (by omega))
      clear pz yy yz h0 h1 h2 hb how hsz
      go_wp2_with fail
      exact bodyPost_ret (v := .agg #[.slice A' fs.length c', .int .i64 fuel, .slice ao out.length cap, .int .i64 done, .int .i64 value]) (by simp [results, Tryz.results5, go_sem, EE.out.1, EE.out.2.1, EE.out.2.2.1, EE.out.2.2.2.1, EE.out.2.2.2.2]) rfl
        ⟨_, _, _, rfl, OO.out, KB.out⟩
end Go.Proofs.YtdjlaglilokjeaaGreatDoor
