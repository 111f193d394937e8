/- 'step.Copy': a state of the call's own, the same. Conditions: the state lies in memory; no list is longer than the reach. -/
import Derived.Test.YtpfgklkdldkajaaDoorSCopy
import Derived.Test.YtpfgklkdldkajaaDoorGE21
namespace Go.Proofs.YtpfgklkdldkajaaDoor
open Go.RowKit

/-- A frame, with rows of its own from here on. -/
theorem OwnFrU.step {w wa : World} {base g off n cap k : Nat} {r : List Frm} {vs : List (List Value)} (h : OwnU KFr w base (.slice (some ⟨g, off, none⟩) n cap) r vs k) (hk : k < r.length) (hb : Below w.heap.size w wa) {u1 u2 : Value} (hB : Build wa w.heap.size [u1, u2] (KFr.rows r[k])) (hbase : base ≤ w.heap.size) :
    OwnU KFr ((((wa.setCell ⟨g, off + k * 4, none⟩ (.int .i64 r[k].fn)).setCell ⟨g, off + k * 4 + 1, none⟩ (.int .i64 r[k].pc)).setCell ⟨g, off + k * 4 + 2, none⟩ u1).setCell ⟨g, off + k * 4 + 3, none⟩ u2) base (.slice (some ⟨g, off, none⟩) n cap) r (vs.set k [u1, u2]) (k + 1) := by
  have hl := h.len
  have hzl : (List.zipWith KFr.cells r vs).length = r.length := by simp [hl]
  obtain ⟨_, _, e2, hnc, _⟩ := h.row.shape
  injection e2 with _ e2 e3
  subst e2 e3
  have hob : ob (.slice (some ⟨g, off, none⟩) r.length cap) = some g := ob_some (by omega)
  have hgl := (h.row.in_ g hob).2
  have r0 := h.row.below hb
  have hki : k < (List.zipWith KFr.cells r vs).length := by omega
  rw [show List.zipWith KFr.cells r vs = (List.zipWith KFr.cells r vs).set k ((List.zipWith KFr.cells r vs)[k]) from (List.set_getElem_self _).symm] at r0
  have hL := zip_len KFr r vs
  have l0 : ((List.zipWith KFr.cells r vs)[k]).length = 4 := hL _ (List.getElem_mem hki)
  have r1 := CRow.elt_put' hL hki l0 r0 (j := 0) (by decide) (.int .i64 r[k].fn)
  have r2 := CRow.elt_put' hL hki (by rw [List.length_set]; exact l0) r1 (j := 1) (by decide) (.int .i64 r[k].pc)
  have r3 := CRow.elt_put' hL hki (by rw [List.length_set, List.length_set]; exact l0) r2 (j := 2) (by decide) u1
  have r4 := CRow.elt_put' hL hki (by rw [List.length_set, List.length_set, List.length_set]; exact l0) r3 (j := 3) (by decide) u2
  have e : (((((List.zipWith KFr.cells r vs)[k]).set 0 (.int .i64 r[k].fn)).set 1 (.int .i64 r[k].pc)).set 2 u1).set 3 u2 = KFr.cells r[k] [u1, u2] := by
    rw [List.getElem_zipWith]; rfl
  rw [e, zip_set KFr hk hl, List.set_getElem_self] at r4
  have c1 : Chg (fun b => b = g) wa ((((wa.setCell ⟨g, off + k * 4, none⟩ (.int .i64 r[k].fn)).setCell ⟨g, off + k * 4 + 1, none⟩ (.int .i64 r[k].pc)).setCell ⟨g, off + k * 4 + 2, none⟩ u1).setCell ⟨g, off + k * 4 + 3, none⟩ u2) :=
    ((((Chg.refl (fun b => b = g) wa).put (a := ⟨g, off + k * 4, none⟩) rfl _).put (a := ⟨g, off + k * 4 + 1, none⟩) rfl _).put (a := ⟨g, off + k * 4 + 2, none⟩) rfl _).put (a := ⟨g, off + k * 4 + 3, none⟩) rfl _
  exact OwnU.step h hk ((Chg.of_below (S := fun b => ob (.slice (some ⟨g, off, none⟩) r.length cap) = some b) hb).trans c1 (fun i _ e => by subst e; exact hob)) (hB.chg c1 (fun b e => by omega)) (Nat.le_refl _) hbase r4
set_option maxRecDepth 100000 in
set_option maxHeartbeats 8000000 in
theorem scopy_any {w : World} {sb c co : Nat} {s : Stt} {A Ao : Option Addr} (hS : RowAt 74 sb (sttC s (.slice A s.frames.length c) (.slice Ao s.out.length co)) w) (hr : ReadsS w s A Ao) (hz : FitS s) :
    Calls Tryd.prog 59 #[.pointer (some ⟨sb, 0, none⟩)] w (CopyE s w) := by
  obtain ⟨fs, fuel, out, done, value⟩ := s
  obtain ⟨hf, ho⟩ := hr
  obtain ⟨z1, z2, z3⟩ := hz
  unfold sttC at hS
  simp only at hS hf ho z1 z2 z3
  obtain ⟨vss, hl, hv, hc⟩ := frm_rows hf
  have hn := hf.1
  have hno := ho.1
  obtain ⟨w1, hw1⟩ : ∃ w1, w.alloc (.cells #[.slice none 0 0, .int .i64 0, .slice none 0 0, .int .i64 0, .int .i64 0] 74) = w1 := ⟨_, rfl⟩
  obtain ⟨w2, hw2⟩ : ∃ w2, w1.alloc (.cells #[.slice A fs.length c, .int .i64 fuel, .slice Ao out.length co, .int .i64 done, .int .i64 value] 74) = w2 := ⟨_, rfl⟩
  have b1 : Below w.heap.size w w1 := hw1 ▸ below_alloc (Below.refl _ _) _
  have b2 : Below w1.heap.size w1 w2 := hw2 ▸ below_alloc (Below.refl _ _) _
  have y1 : w1.heap.size = w.heap.size + 1 := by rw [← hw1]; simp
  have y2 : w2.heap.size = w.heap.size + 2 := by rw [← hw2]; simp [y1]
  have r1 : RowAt 74 w.heap.size [.slice none 0 0, .int .i64 0, .slice none 0 0, .int .i64 0, .int .i64 0] w2 := (hw1 ▸ RowAt.new _ _ w : RowAt 74 w.heap.size _ w1).below b2
  have r2 : RowAt 74 w1.heap.size [.slice A fs.length c, .int .i64 fuel, .slice Ao out.length co, .int .i64 done, .int .i64 value] w2 := hw2 ▸ RowAt.new _ _ w1
  have b02 := below_trans b1 b2
  have s1 := hS.below b1
  have p0 := s1.cell (k := 0) (by simp)
  have p1 := s1.cell (k := 1) (by simp)
  have p2 := s1.cell (k := 2) (by simp)
  have p3 := s1.cell (k := 3) (by simp)
  have p4 := s1.cell (k := 4) (by simp)
  have s2 := s1.below b2
  have d0 := s2.cell (k := 0) (by simp)
  have d2 := s2.cell (k := 2) (by simp)
  simp only [List.getElem_cons_zero, List.getElem_cons_succ] at p0 p1 p2 p3 p4 d0 d2
  have HC1 := Lib.hid (show ∀ W', Below w2.heap.size w2 W' → Calls Tryd.prog 87 #[.slice A fs.length c] W' (CloneF fs vss W') from fun W' h => cloneF_any A c fs vss W' z1 hl (fun k hk hk' => by
    obtain ⟨A1, n1, A2, n2, e, _⟩ := hv k hk hk'
    exact ⟨A1, n1, A2, n2, e⟩) (fun h0 => by
    obtain ⟨ad, e, hcc⟩ := hc h0
    exact ⟨ad, e, fun j u hu => cell_below (below_trans b02 h) (hcc j u hu)⟩))
  have HC2 := Lib.hid (show ∀ W', Below w2.heap.size w2 W' → Calls Tryd.prog 77 #[.slice Ao out.length co] W' (CloneE 3 1 out.length (intsV out) W') from fun W' h => cloneI_any Ao co out W' (ho.below (below_trans b02 h)) z2)
  have R1 := Lib.hid r1
  have R2 := Lib.hid r2
  have Y1 := Lib.hid y1
  have Y2 := Lib.hid y2
  have B02 := Lib.hid b02
  have HV := Lib.hid hv
  have HL := Lib.hid hl
  have Z3 := Lib.hid z3
  clear hS hf ho hc hv hl z1 z2 z3 b1 b2 y1 y2 r1 r2 b02 s1 s2
  go_enter Tryd.func59, Tryd.ntmps59
  go_upto_region 2 with fail
  clear hw1 hw2
  go_region_with
    (first | ((go_at_call 87; (with_reducible refine (HC1.out _ (below_drw (Below.refl _ _))).mono ?_); rintro e wj ⟨aj, cj, rfl, hcj, hbj⟩; have HCJ := Lib.hid hcj; have HBJ := Lib.hid hbj; have HWJ := Lib.hid (below_trans (below_drw (Below.refl w2.heap.size w2)) hbj); have t0 := cell_below HWJ.out d0; have t2 := cell_below HWJ.out d2; clear hcj hbj)) | ((go_at_call 77; (with_reducible refine (HC2.out _ HWJ.out).mono ?_); rintro e wf ⟨af, cf, rfl, hcf, hbf⟩; have HCF := Lib.hid hcf; have HBF := Lib.hid hbf; have HWF := Lib.hid (below_trans HWJ.out hbf); have u0 := cell_below HWF.out d0; have u2 := cell_below HWF.out d2; have v0 : wf.cell? ⟨w1.heap.size, 0, none⟩ = some (.slice A fs.length c) := (R2.out.below HWF.out).cell (k := 0) (by simp); have v2 : wf.cell? ⟨w1.heap.size, 2, none⟩ = some (.slice Ao out.length co) := (R2.out.below HWF.out).cell (k := 2) (by simp); have x0 : wf.frozen? ⟨w1.heap.size, 0, none⟩ = false := (R2.out.below HWF.out).free 0; have x2 : wf.frozen? ⟨w1.heap.size, 2, none⟩ = false := (R2.out.below HWF.out).free 2; clear hcf hbf)))
  all_goals
    have rf := R2.out.below HWF.out
    have q3 := (rf.put 0 (.slice aj fs.length cj)).put 2 (.slice af out.length cf)
    simp only [List.set_cons_zero, List.set_cons_succ] at q3
    have kc : Chg (fun b => b = w1.heap.size) wf ((wf.setCell ⟨w1.heap.size, 0, none⟩ (.slice aj fs.length cj)).setCell ⟨w1.heap.size, 2, none⟩ (.slice af out.length cf)) := ((Chg.refl (fun b => b = w1.heap.size) wf).put (a := ⟨w1.heap.size, 0, none⟩) rfl _).put (a := ⟨w1.heap.size, 2, none⟩) rfl _
    obtain ⟨wg, hwg⟩ : ∃ wg, (wf.setCell ⟨w1.heap.size, 0, none⟩ (.slice aj fs.length cj)).setCell ⟨w1.heap.size, 2, none⟩ (.slice af out.length cf) = wg := ⟨_, rfl⟩
    rw [hwg] at q3 kc ⊢
    have hzj := HWJ.out.size
    have hzd : w2.drew.heap.size = w2.heap.size := rfl
    have OU := Lib.hid (show OwnU KFr wg w2.heap.size (.slice aj fs.length cj) fs vss 0 from ⟨HL.out, ((HCJ.out.mono (Nat.le_refl _)).below HBF.out).chg kc (fun b hb e => by have := (HCJ.out.in_ b hb).1; have := Y2.out; have := Y1.out; omega), fun _ _ _ h => absurd h (Nat.not_lt_zero _), fun _ _ _ _ _ h => absurd h (Nat.not_lt_zero _), fun _ _ _ _ _ _ _ _ h => absurd h (Nat.not_lt_zero _)⟩)
    have CO := Lib.hid (show CRow wg wj.heap.size 3 1 (.slice af out.length cf) out.length (intsV out) from HCF.out.chg kc (fun b hb e => by have := (HCF.out.in_ b hb).1; have := Y2.out; have := Y1.out; omega))
    have AJ := Lib.hid (show ∀ b, ob (.slice aj fs.length cj) = some b → b < wj.heap.size from fun b hb => (HCJ.out.in_ b hb).2)
    have R1G := Lib.hid ((R1.out.below HWF.out).chg kc (by have := Y1.out; omega))
    have R2G := Lib.hid q3
    have BG := Lib.hid (Chg.below (below_trans B02.out HWF.out) kc (fun b e => by have := Y1.out; omega))
    have SG := Lib.hid (show w2.heap.size ≤ wj.heap.size ∧ wj.heap.size ≤ wg.heap.size from ⟨hzj, by have := HBF.out.size; have := kc.size; omega⟩)
    have g0 := q3.cell (k := 0) (by simp)
    simp only [List.getElem_cons_zero] at g0
    clear rf q3 kc hwg hzj hzd d0 d2 t0 t2 u0 u2 v0 v2 x0 x2 p0 p1 p2 p3 p4 HCJ HBJ HCF HBF HWF HWJ
    go_wp2_with fail
    clear g0
    go_loopw [23] (fun i wr => ∃ (k : Nat) (vs : List (List Value)), i = .int .i64 k ∧ k ≤ fs.length ∧ OwnU KFr wr w2.heap.size (.slice aj fs.length cj) fs vs k ∧ (∀ j (h : j < vss.length) (h' : j < vs.length), k ≤ j → vs[j] = vss[j]) ∧ RowAt 74 w.heap.size [.slice none 0 0, .int .i64 0, .slice none 0 0, .int .i64 0, .int .i64 0] wr ∧ RowAt 74 w1.heap.size [.slice aj fs.length cj, .int .i64 fuel, .slice af out.length cf, .int .i64 done, .int .i64 value] wr ∧
      CRow wr wj.heap.size 3 1 (.slice af out.length cf) out.length (intsV out) ∧ (∀ j (h : j < vs.length), j < k → ∀ u ∈ vs[j], ∀ b, ob u = some b → ob (.slice af out.length cf) ≠ some b) ∧ Below w.heap.size w wr ∧ wg.heap.size ≤ wr.heap.size) (fun i _ => fs.length - (intOf i).toNat)
    case atStart => exact ⟨0, vss, rfl, Nat.zero_le _, OU.out, fun _ _ _ _ => rfl, R1G.out, R2G.out, CO.out, fun _ _ h => absurd h (Nat.not_lt_zero _), BG.out, Nat.le_refl _⟩
    case round =>
      obtain ⟨k, vs, rfl, hk, hu, hsame, h0, h2, hco, hsep, hb, hsz⟩ := hrel
      have q0 := h2.cell (k := 0) (by simp)
      simp only [List.getElem_cons_zero] at q0
      have HU := Lib.hid hu
      have HSM := Lib.hid hsame
      have H0 := Lib.hid h0
      have H2 := Lib.hid h2
      have HCO := Lib.hid hco
      have HSP := Lib.hid hsep
      have HB := Lib.hid hb
      have HSZ := Lib.hid hsz
      clear OU R1G R2G BG CO hu hsame h0 h2 hb hsz hco hsep
      by_cases hlt : k < fs.length
      case neg =>
        obtain rfl : k = fs.length := by omega
        have g1 := H2.out.cell (k := 1) (by simp)
        have g2 := H2.out.cell (k := 2) (by simp)
        have g3 := H2.out.cell (k := 3) (by simp)
        have g4 := H2.out.cell (k := 4) (by simp)
        simp only [List.getElem_cons_zero, List.getElem_cons_succ] at g1 g2 g3 g4
        have m0 := H0.out.cell (k := 0) (by simp)
        have m1 := H0.out.cell (k := 1) (by simp)
        have m2 := H0.out.cell (k := 2) (by simp)
        have m3 := H0.out.cell (k := 3) (by simp)
        have m4 := H0.out.cell (k := 4) (by simp)
        simp only [List.getElem_cons_zero, List.getElem_cons_succ] at m0 m1 m2 m3 m4
        have n0 := H0.out.free 0
        have n1 := H0.out.free 1
        have n2 := H0.out.free 2
        have n3 := H0.out.free 3
        have n4 := H0.out.free 4
        have e0 := H0.out.put 0 (.slice aj fs.length cj)
        have e1 := e0.put 1 (.int .i64 fuel)
        have e2 := e1.put 2 (.slice af out.length cf)
        have e3 := e2.put 3 (.int .i64 done)
        have e4 := e3.put 4 (.int .i64 value)
        have kd := (((((Chg.refl (fun b => b = w.heap.size) wr).put (a := ⟨w.heap.size, 0, none⟩) rfl (.slice aj fs.length cj)).put (a := ⟨w.heap.size, 1, none⟩) rfl (.int .i64 fuel)).put (a := ⟨w.heap.size, 2, none⟩) rfl (.slice af out.length cf)).put (a := ⟨w.heap.size, 3, none⟩) rfl (.int .i64 done)).put (a := ⟨w.heap.size, 4, none⟩) rfl (.int .i64 value)
        have EE := Lib.hid (And.intro (e0.cell (k := 0) (by simp)) (And.intro (e1.cell (k := 1) (by simp)) (And.intro (e2.cell (k := 2) (by simp)) (And.intro (e3.cell (k := 3) (by simp)) (e4.cell (k := 4) (by simp))))))
        have hg := OwnU.done HU.out
        have FIN := Lib.hid (show CopyE ⟨fs, fuel, out, done, value⟩ w (.returned (.agg #[.slice aj fs.length cj, .int .i64 fuel, .slice af out.length cf, .int .i64 done, .int .i64 value])) _ from
          ⟨.slice aj fs.length cj, .slice af out.length cf, vs, rfl, ⟨OwnG.mono (OwnG.chg hg kd (fun u hu b hb e => by have := (OwnG.lo hg u hu b hb).1; have := Y2.out; omega)) (by have := Y2.out; omega), (HCO.out.mono (by have := SG.out.1; have := Y2.out; omega)).chg kd (fun b hb e => by have := (HCO.out.in_ b hb).1; have := SG.out.1; have := Y2.out; omega), fun u hu b hb => by
            rcases List.mem_cons.1 hu with rfl | hu
            · intro e
              have := AJ.out b hb
              have := (HCO.out.in_ b e).1
              omega
            · obtain ⟨l, hl, hul⟩ := List.mem_flatten.1 hu
              obtain ⟨j, hj, rfl⟩ := List.mem_iff_getElem.1 hl
              exact HSP.out j hj (by have := HU.out.len; omega) u hul b hb⟩, Chg.below HB.out kd (fun b e => by omega)⟩)
        clear e0 e1 e2 e3 e4 kd hg
        go_wp2_with fail
        exact bodyPost_ret (v := .agg #[.slice aj fs.length cj, .int .i64 fuel, .slice af out.length cf, .int .i64 done, .int .i64 value]) (by simp [results, Tryd.results59, go_sem, EE.out.1, EE.out.2.1, EE.out.2.2.1, EE.out.2.2.2.1, EE.out.2.2.2.2]) rfl FIN.out
      have hvl := HU.out.len
      have hkv : k < vs.length := by omega
      have hkv0 : k < vss.length := by have := HL.out; omega
      obtain ⟨A1, n1, A2, n2, ev, s1, s2⟩ := HV.out k hlt hkv0
      have ev' := (HSM.out k hkv0 hkv (Nat.le_refl _)).trans ev
      obtain ⟨g, off, eA, hg1, hg2, hob, hcc⟩ := HU.out.cell (by decide) hlt
      subst eA
      have cc := fun j (hj : j < 4) => hcc k hlt hkv j hj
      have d0 : wr.cell? ⟨g, off + k * 4, none⟩ = _ := (cc 0 (by decide)).1
      have d1 : wr.cell? ⟨g, off + k * 4 + 1, none⟩ = _ := (cc 1 (by decide)).1
      have d2 : wr.cell? ⟨g, off + k * 4 + 2, none⟩ = _ := (cc 2 (by decide)).1
      have d3 : wr.cell? ⟨g, off + k * 4 + 3, none⟩ = _ := (cc 3 (by decide)).1
      simp only [KFr, ev', List.getElem_cons_zero, List.getElem_cons_succ, List.getD_cons_zero, List.getD_cons_succ] at d0 d1 d2 d3
      obtain ⟨y1, y2⟩ := Z3.out _ (List.getElem_mem hlt)
      obtain ⟨f, hf⟩ : ∃ f, fs[k] = f := ⟨_, rfl⟩
      rw [hf] at d0 d1 d2 d3 s1 s2 y1 y2 ev'
      have HF := Lib.hid hf
      have HC := Lib.hid (show ∀ W', Below wr.heap.size wr W' → Calls Tryd.prog 88 #[.agg #[.int .i64 f.fn, .int .i64 f.pc, .slice A1 f.locals.length n1, .slice A2 f.stack.length n2]] W' (FCopyE f W') from fun W' h => fcopy_any A1 A2 n1 n2 f W' (s1.below (below_trans HB.out h)) (s2.below (below_trans HB.out h)) y1 y2)
      have OB := Lib.hid hob
      have CC := Lib.hid cc
      have HG2 := Lib.hid hg2
      clear ev ev' s1 s2 y1 y2 hf hcc cc hg1 hg2 hob hvl
      go_upto_region 6 with fail
      go_region_with
        (go_at_call 88; (with_reducible refine (HC.out _ (below_drw (Below.refl _ _))).mono ?_); rintro e wa ⟨a1, k1, a2, k2, rfl, hBd, hba⟩; have HBD := Lib.hid hBd; have HBA := Lib.hid hba; have HWA := Lib.hid (below_trans (below_drw (Below.refl wr.heap.size wr)) hba); have t0 := cell_below HWA.out q0; have x0 := cell_below HWA.out d0; have x1 := cell_below HWA.out d1; have x2 := cell_below HWA.out d2; have x3 := cell_below HWA.out d3; have l0 : wa.frozen? ⟨g, off + k * 4, none⟩ = false := (by rw [HWA.out.frozen (p := ⟨g, off + k * 4, none⟩) HG2.out]; exact (CC.out 0 (by decide)).2); have l1 : wa.frozen? ⟨g, off + k * 4 + 1, none⟩ = false := (by rw [HWA.out.frozen (p := ⟨g, off + k * 4 + 1, none⟩) HG2.out]; exact (CC.out 1 (by decide)).2); have l2 : wa.frozen? ⟨g, off + k * 4 + 2, none⟩ = false := (by rw [HWA.out.frozen (p := ⟨g, off + k * 4 + 2, none⟩) HG2.out]; exact (CC.out 2 (by decide)).2); have l3 : wa.frozen? ⟨g, off + k * 4 + 3, none⟩ = false := (by rw [HWA.out.frozen (p := ⟨g, off + k * 4 + 3, none⟩) HG2.out]; exact (CC.out 3 (by decide)).2); clear hBd hba)
      all_goals
        have hst := OwnFrU.step HU.out hlt HWA.out (by rw [HF.out]; exact HBD.out) (by have := HSZ.out; have := SG.out; omega)
        rw [HF.out] at hst
        have gl := AJ.out g OB.out
        have g0 : w2.heap.size ≤ g := (HU.out.row.in_ g OB.out).1
        have kc : Chg (fun b => b = g) wa ((((wa.setCell ⟨g, off + k * 4, none⟩ (.int .i64 f.fn)).setCell ⟨g, off + k * 4 + 1, none⟩ (.int .i64 f.pc)).setCell ⟨g, off + k * 4 + 2, none⟩ (.slice a1 f.locals.length k1)).setCell ⟨g, off + k * 4 + 3, none⟩ (.slice a2 f.stack.length k2)) :=
          ((((Chg.refl (fun b => b = g) wa).put (a := ⟨g, off + k * 4, none⟩) rfl _).put (a := ⟨g, off + k * 4 + 1, none⟩) rfl _).put (a := ⟨g, off + k * 4 + 2, none⟩) rfl _).put (a := ⟨g, off + k * 4 + 3, none⟩) rfl _
        obtain ⟨wz, hwz⟩ : ∃ wz, (((wa.setCell ⟨g, off + k * 4, none⟩ (.int .i64 f.fn)).setCell ⟨g, off + k * 4 + 1, none⟩ (.int .i64 f.pc)).setCell ⟨g, off + k * 4 + 2, none⟩ (.slice a1 f.locals.length k1)).setCell ⟨g, off + k * 4 + 3, none⟩ (.slice a2 f.stack.length k2) = wz := ⟨_, rfl⟩
        rw [hwz] at hst kc ⊢
        have FF := Lib.hid (show (∀ j (h : j < vss.length) (h' : j < (vs.set k [.slice a1 f.locals.length k1, .slice a2 f.stack.length k2]).length), k + 1 ≤ j → (vs.set k [.slice a1 f.locals.length k1, .slice a2 f.stack.length k2])[j] = vss[j]) ∧ RowAt 74 w.heap.size [.slice none 0 0, .int .i64 0, .slice none 0 0, .int .i64 0, .int .i64 0] wz ∧ RowAt 74 w1.heap.size [.slice (some ⟨g, off, none⟩) fs.length cj, .int .i64 fuel, .slice af out.length cf, .int .i64 done, .int .i64 value] wz ∧
            CRow wz wj.heap.size 3 1 (.slice af out.length cf) out.length (intsV out) ∧ (∀ j (h : j < (vs.set k [.slice a1 f.locals.length k1, .slice a2 f.stack.length k2]).length), j < k + 1 → ∀ u ∈ (vs.set k [.slice a1 f.locals.length k1, .slice a2 f.stack.length k2])[j], ∀ b, ob u = some b → ob (.slice af out.length cf) ≠ some b) ∧ Below w.heap.size w wz ∧ wg.heap.size ≤ wz.heap.size from
          ⟨fun j h h' hj => by
            rw [List.getElem_set_ne (by omega)]
            exact HSM.out j h (by simpa using h') (by omega), (H0.out.below HWA.out).chg kc (by have := Y2.out; omega), (H2.out.below HWA.out).chg kc (by have := Y2.out; have := Y1.out; omega), (HCO.out.below HWA.out).chg kc (fun b hb e => by have := (HCO.out.in_ b hb).1; omega),
            fun j h hj u hu b hb e => by
              by_cases hjk : j = k
              · subst hjk
                rw [List.getElem_set_self] at hu
                have hlo := (HCO.out.in_ b e).2
                obtain ⟨q, hq, rfl⟩ := List.mem_iff_getElem.1 hu
                have hq2 : q < (KFr.rows f).length := by simpa [KFr] using hq
                have := (CRow.in_ (HBD.out.inn q hq hq2) b hb).1
                have hd : wr.drew.heap.size = wr.heap.size := rfl
                omega
              · rw [List.getElem_set_ne (fun e => hjk e.symm)] at hu
                exact HSP.out j (by simpa using h) (by omega) u hu b hb e,
            Chg.below (below_trans HB.out HWA.out) kc (fun b e => by have := Y2.out; omega), by have := HSZ.out; have := HWA.out.size; have := kc.size; omega⟩)
        have HST := Lib.hid hst
        clear hst kc gl g0 q0 t0 x0 x1 x2 x3 l0 l1 l2 l3 d0 d1 d2 d3 hwz
        go_wp2_with fail
        go_roundw
        case rel => exact ⟨k + 1, _, by go_num, by omega, HST.out, FF.out.1, FF.out.2.1, FF.out.2.2.1, FF.out.2.2.2.1, FF.out.2.2.2.2.1, FF.out.2.2.2.2.2.1, FF.out.2.2.2.2.2.2⟩
        case measure => simp only [intOf]; omega
end Go.Proofs.YtpfgklkdldkajaaDoor
