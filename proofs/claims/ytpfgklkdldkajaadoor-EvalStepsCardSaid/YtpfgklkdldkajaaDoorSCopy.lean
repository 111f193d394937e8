/- 'slices.Clone' of frames, 'frame.Copy', 'step.Copy': a state of the call's own, the same. Conditions: the state lies in memory; no list is longer than the reach. -/
import Derived.Test.YtpfgklkdldkajaaDoorGE17
import Derived.Test.YtpfgklkdldkajaaDoorOwnU
import Derived.Test.YtpfgklkdldkajaaDoorGE14
import Derived.Deep.RegionHeld3
namespace Go.Proofs.YtpfgklkdldkajaaDoor
open Go.RowKit

theorem add_s3 (a : Addr) (j : Nat) : (⟨(a.add j).block, (a.add j).off + 3, none⟩ : Addr) = a.add (j + 3) := by
  unfold Addr.add
  by_cases h : j = 0
  · subst h; simp
  · rw [if_neg h, if_neg (by omega)]; rfl
/-- Frames' cells, out of what they are read as. -/
theorem frm_rows {w : World} {A : Option Addr} {r : List Frm} (h : ReadsFr w A r) : ∃ vss : List (List Value), vss.length = r.length ∧
    (∀ k (hk : k < r.length) (hk' : k < vss.length), ∃ A1 n1 A2 n2, vss[k] = [.slice A1 r[k].locals.length n1, .slice A2 r[k].stack.length n2] ∧ ReadsI w A1 r[k].locals ∧ ReadsI w A2 r[k].stack) ∧
    (0 < r.length → ∃ ad : Addr, A = some ad ∧ ∀ j u, (List.zipWith KFr.cells r vss).flatten[j]? = some u → w.cell? (ad.add j) = some u) := by
  have key : ∀ k, ∃ vs : List Value, ∀ hk : k < r.length, ∃ A1 n1 A2 n2, vs = [.slice A1 r[k].locals.length n1, .slice A2 r[k].stack.length n2] ∧ ReadsI w A1 r[k].locals ∧ ReadsI w A2 r[k].stack ∧
      ∃ ad : Addr, A = some ad ∧ w.cell? (ad.add (k * 4)) = some (.int .i64 r[k].fn) ∧ w.cell? ⟨(ad.add (k * 4)).block, (ad.add (k * 4)).off + 1, none⟩ = some (.int .i64 r[k].pc) ∧ w.cell? ⟨(ad.add (k * 4)).block, (ad.add (k * 4)).off + 2, none⟩ = some (.slice A1 r[k].locals.length n1) ∧ w.cell? ⟨(ad.add (k * 4)).block, (ad.add (k * 4)).off + 3, none⟩ = some (.slice A2 r[k].stack.length n2) := by
    intro k
    by_cases hk : k < r.length
    · obtain ⟨ad, e, c0, c1, ⟨A1, n1, c2, s2⟩, A2, n2, c3, s3⟩ := h.at_ (Below.refl _ _) hk
      exact ⟨[.slice A1 r[k].locals.length n1, .slice A2 r[k].stack.length n2], fun _ => ⟨A1, n1, A2, n2, rfl, s2, s3, ad, e, c0, c1, c2, c3⟩⟩
    · exact ⟨[], fun h => absurd h hk⟩
  let vss : List (List Value) := (List.range r.length).map fun k => (key k).choose
  have hvl : vss.length = r.length := by simp [vss]
  have hvk : ∀ k (hk : k < r.length) (hk' : k < vss.length), vss[k] = (key k).choose := fun k hk hk' => by simp [vss]
  refine ⟨vss, hvl, fun k hk hk' => ?_, fun h0 => ?_⟩
  · rw [hvk k hk hk']
    obtain ⟨A1, n1, A2, n2, e, s1, s2, _⟩ := (key k).choose_spec hk
    exact ⟨A1, n1, A2, n2, e, s1, s2⟩
  · obtain ⟨ad, eA, _⟩ := h.2 h0
    refine ⟨ad, eA, fun j u hu => ?_⟩
    obtain ⟨hj, rfl⟩ := List.getElem?_eq_some_iff.1 hu
    have hL := zip_len KFr r vss
    have hzl : (List.zipWith KFr.cells r vss).length = r.length := by simp [hvl]
    have hfl := flat_len hL
    rw [hzl] at hfl
    have hfl4 : (List.zipWith KFr.cells r vss).flatten.length = r.length * 4 := hfl
    have hk : j / 4 < r.length := by omega
    have hkz : j / 4 < (List.zipWith KFr.cells r vss).length := by omega
    have hkv : j / 4 < vss.length := by omega
    obtain ⟨A1, n1, A2, n2, e, s1, s2, ad', eA', c0, c1, c2, c3⟩ := (key (j / 4)).choose_spec hk
    rw [← hvk _ hk hkv] at e
    cases eA.symm.trans eA'
    have hcells : (List.zipWith KFr.cells r vss)[j / 4] = [.int .i64 r[j / 4].fn, .int .i64 r[j / 4].pc, .slice A1 r[j / 4].locals.length n1, .slice A2 r[j / 4].stack.length n2] := by
      rw [List.getElem_zipWith, e]; rfl
    have hm : j % 4 < 4 := Nat.mod_lt _ (by decide)
    have ej : j = j / 4 * 4 + j % 4 := by omega
    have hget : (List.zipWith KFr.cells r vss).flatten[j] = ([Value.int .i64 r[j / 4].fn, .int .i64 r[j / 4].pc, .slice A1 r[j / 4].locals.length n1, .slice A2 r[j / 4].stack.length n2])[j % 4]'(by simpa using hm) := by
      have h1 := flat_get hL (i := j / 4) (j := j % 4) hkz (by rw [hcells]; simpa using hm) (by have := hfl4; show j / 4 * 4 + j % 4 < _; omega)
      simp only [hcells] at h1
      rw [← h1]
      congr 1
    rw [hget]
    obtain e0 | e0 | e0 | e0 : j % 4 = 0 ∨ j % 4 = 1 ∨ j % 4 = 2 ∨ j % 4 = 3 := by omega
    · simp only [e0, List.getElem_cons_zero]; rw [← c0]; congr 2; omega
    · simp only [e0, List.getElem_cons_zero, List.getElem_cons_succ]; rw [← c1, add_succ]; congr 2; omega
    · simp only [e0, List.getElem_cons_zero, List.getElem_cons_succ]; rw [← c2, add_succ2]; congr 2; omega
    · simp only [e0, List.getElem_cons_zero, List.getElem_cons_succ]; rw [← c3, add_s3]; congr 2; omega
/-- A call that answers frames' rows, copied; what stands in them is as it was. -/
def CloneF (r : List Frm) (vss : List (List Value)) (w : World) (e : Ending) (w' : World) : Prop := ∃ ao cap, e = .returned (.slice ao r.length cap) ∧ CRow w' w.heap.size 149 4 (.slice ao r.length cap) r.length (List.zipWith KFr.cells r vss).flatten ∧ Below w.heap.size w w'
theorem frm_src {P : Program} {tx e' : TypeId} (hk : P.underlying tx = some (.slice e')) {w : World} {a : Addr} {c : Nat} {r : List Frm} {vss : List (List Value)} (hl : vss.length = r.length) (hv : ∀ k (hk : k < r.length) (hk' : k < vss.length), ∃ A1 n1 A2 n2, vss[k] = [.slice A1 r[k].locals.length n1, .slice A2 r[k].stack.length n2])
    (h : ∀ j u, (List.zipWith KFr.cells r vss).flatten[j]? = some u → w.cell? (a.add j) = some u) : Src P 4 tx (.slice (some a) r.length c) r.length (List.zipWith KFr.cells r vss).flatten w :=
  Src.ofSlice w hk a _ c _ (by have := flat_len (zip_len KFr r vss); rw [show (List.zipWith KFr.cells r vss).length = r.length by simp [hl]] at this; exact this) h (fun u hu => by
    obtain ⟨l, hlm, hul⟩ := List.mem_flatten.1 hu
    obtain ⟨k, hk, rfl⟩ := List.mem_iff_getElem.1 hlm
    have hk1 : k < r.length := by simp at hk; omega
    have hk2 : k < vss.length := by omega
    obtain ⟨A1, n1, A2, n2, e⟩ := hv k hk1 hk2
    rw [List.getElem_zipWith, e] at hul
    simp [KFr] at hul
    rcases hul with rfl | rfl | rfl | rfl <;> rfl)
set_option maxRecDepth 100000 in
theorem cloneF_any (A : Option Addr) (c : Nat) (r : List Frm) (vss : List (List Value)) (w : World) (hz : r.length * 64 ≤ 140737488351232) (hl : vss.length = r.length)
    (hv : ∀ k (hk : k < r.length) (hk' : k < vss.length), ∃ A1 n1 A2 n2, vss[k] = [.slice A1 r[k].locals.length n1, .slice A2 r[k].stack.length n2]) (hc : 0 < r.length → ∃ ad : Addr, A = some ad ∧ ∀ j u, (List.zipWith KFr.cells r vss).flatten[j]? = some u → w.cell? (ad.add j) = some u) :
    Calls Tryd.prog 87 #[.slice A r.length c] w (CloneF r vss w) := by
  cases A with
  | none =>
    have h0 : r.length = 0 := by
      rcases Nat.eq_zero_or_pos r.length with h | h
      · exact h
      · obtain ⟨ad, e, _⟩ := hc h; cases e
    obtain rfl := List.eq_nil_of_length_eq_zero h0
    have hq : (binOp .eql 72 (.slice none 0 c) (.slice none 0 0)).run Tryd.prog w = .ok (.bool true) w := eql_nil w _ 149 none 0 c Tryd.underlying72
    clear hz hl hv hc h0
    go_enter Tryd.func87, Tryd.ntmps87
    go_wp2_with fail
    go_ret
    exact ⟨none, 0, rfl, CRow.nil _ _ _ _, Below.refl _ _⟩
  | some a =>
    obtain ⟨i, hi, hz0, hs, hb⟩ := info_parts info_frame
    have b1 : Below w.heap.size w (w.alloc (.cells #[] 149)) := below_alloc (Below.refl _ _) _
    have hsrc : Src Tryd.prog 4 72 (.slice (some a) r.length c) r.length (List.zipWith KFr.cells r vss).flatten (w.alloc (.cells #[] 149)) := frm_src Tryd.underlying72 hl hv (fun j u hu => by
      have h0 : 0 < r.length := by
        obtain ⟨hj, _⟩ := List.getElem?_eq_some_iff.1 hu
        rcases Nat.eq_zero_or_pos r.length with h | h
        · obtain rfl := List.eq_nil_of_length_eq_zero h
          simp at hj
        · exact h
      obtain ⟨ad, e, hcc⟩ := hc h0
      cases e
      have := hcc j u hu
      exact (b1.cell (World.block_lt_of_cell? w _ this)).trans this)
    obtain ⟨v', w1, hrun, hG⟩ := run_append_crow (P := Tryd.prog) (w.alloc (.cells #[] 149)) 72 149 72 72 i _ 4 64 Tryd.underlying72 hi hz0 hs hb rfl w.heap.size (some ⟨w.heap.size, 0, none⟩) 0 0 [] (.inr ⟨rfl, rfl, _, rfl⟩) b1.size
      (.slice (some a) r.length c) r.length _ hsrc (by omega) (by unfold maxLen; omega)
    have hrow := hG.row
    rw [Nat.zero_add, List.nil_append] at hrow
    obtain ⟨ao, cap, rfl, _, _⟩ := hrow.shape
    have HC := Lib.hid hrow
    have HB := Lib.hid (Chg.below b1 hG.chg (fun b hb => by cases hb))
    have hq : (binOp .eql 72 (.slice (some a) r.length c) (.slice none 0 0)).run Tryd.prog w = .ok (.bool false) w := eql_nil w _ 149 (some a) _ c Tryd.underlying72
    clear hrow hG hi hz0 hs hb b1 hsrc hz hl hv hc
    go_enter Tryd.func87, Tryd.ntmps87
    go_wp2_with (first | (at_builtin; refine wpList_append_run _ rfl _ _ _ _ rfl _ _ _ _ rfl rfl hrun ?_) | fail)
    go_ret
    exact ⟨ao, cap, rfl, HC.out, HB.out⟩
/-- A call that answers a frame, its rows of the call's own. -/
def FCopyE (f : Frm) (w : World) (e : Ending) (w' : World) : Prop := ∃ a1 c1 a2 c2, e = .returned (.agg #[.int .i64 f.fn, .int .i64 f.pc, .slice a1 f.locals.length c1, .slice a2 f.stack.length c2]) ∧ Build w' w.heap.size [.slice a1 f.locals.length c1, .slice a2 f.stack.length c2] (KFr.rows f) ∧ Below w.heap.size w w'
theorem Build.mono {w : World} {N M : Nat} {us : List Value} {rs : List Inn} (h : Build w N us rs) (hM : M ≤ N) : Build w M us rs :=
  ⟨h.len, fun j hj hj' => CRow.mono (h.inn j hj hj') hM, h.self⟩
set_option maxRecDepth 100000 in
set_option maxHeartbeats 4000000 in
theorem fcopy_any (A1 A2 : Option Addr) (c1 c2 : Nat) (f : Frm) (w : World) (h1 : ReadsI w A1 f.locals) (h2 : ReadsI w A2 f.stack) (z1 : f.locals.length * 8 ≤ 140737488351232) (z2 : f.stack.length * 8 ≤ 140737488351232) :
    Calls Tryd.prog 88 #[.agg #[.int .i64 f.fn, .int .i64 f.pc, .slice A1 f.locals.length c1, .slice A2 f.stack.length c2]] w (FCopyE f w) := by
  obtain ⟨w1, hw1⟩ : ∃ w1, w.alloc (.cells #[.int .i64 f.fn, .int .i64 f.pc, .slice A1 f.locals.length c1, .slice A2 f.stack.length c2] 149) = w1 := ⟨_, rfl⟩
  obtain ⟨w2, hw2⟩ : ∃ w2, w1.alloc (.cells #[.int .i64 0, .int .i64 0, .slice none 0 0, .slice none 0 0] 149) = w2 := ⟨_, rfl⟩
  have b1 : Below w.heap.size w w1 := hw1 ▸ below_alloc (Below.refl _ _) _
  have b2 : Below w1.heap.size w1 w2 := hw2 ▸ below_alloc (Below.refl _ _) _
  have y1 : w1.heap.size = w.heap.size + 1 := by rw [← hw1]; simp
  have y2 : w2.heap.size = w.heap.size + 2 := by rw [← hw2]; simp [y1]
  have r1 : RowAt 149 w.heap.size [.int .i64 f.fn, .int .i64 f.pc, .slice A1 f.locals.length c1, .slice A2 f.stack.length c2] w2 := (hw1 ▸ RowAt.new _ _ w : RowAt 149 w.heap.size _ w1).below b2
  have r2 : RowAt 149 w1.heap.size [.int .i64 0, .int .i64 0, .slice none 0 0, .slice none 0 0] w2 := hw2 ▸ RowAt.new _ _ w1
  have b02 := below_trans b1 b2
  have d2 := r1.cell (k := 2) (by simp)
  have d3 := r1.cell (k := 3) (by simp)
  simp only [List.getElem_cons_zero, List.getElem_cons_succ] at d2 d3
  have HC1 := Lib.hid (show ∀ W', Below w2.heap.size w2 W' → Calls Tryd.prog 77 #[.slice A1 f.locals.length c1] W' (CloneE 3 1 f.locals.length (intsV f.locals) W') from fun W' h => cloneI_any A1 c1 f.locals W' (h1.below (below_trans b02 h)) z1)
  have HC2 := Lib.hid (show ∀ W', Below w2.heap.size w2 W' → Calls Tryd.prog 77 #[.slice A2 f.stack.length c2] W' (CloneE 3 1 f.stack.length (intsV f.stack) W') from fun W' h => cloneI_any A2 c2 f.stack W' (h2.below (below_trans b02 h)) z2)
  have R1 := Lib.hid r1
  have R2 := Lib.hid r2
  have Y1 := Lib.hid y1
  have Y2 := Lib.hid y2
  have B02 := Lib.hid b02
  clear h1 h2 z1 z2 b1 b2 y1 y2 r1 r2 b02
  go_enter Tryd.func88, Tryd.ntmps88
  go_upto_region 1 with fail
  clear hw1 hw2
  go_region_with
    (first | ((go_at_call 77; (with_reducible refine (HC1.out _ (below_drw (Below.refl _ _))).mono ?_); rintro e wj ⟨aj, cj, rfl, hcj, hbj⟩; have HCJ := Lib.hid hcj; have HBJ := Lib.hid hbj; have HWJ := Lib.hid (below_trans (below_drw (Below.refl w2.heap.size w2)) hbj); have t2 := cell_below HWJ.out d2; have t3 := cell_below HWJ.out d3; clear hcj hbj)) | ((go_at_call 77; (with_reducible refine (HC2.out _ HWJ.out).mono ?_); rintro e wf ⟨af, cf, rfl, hcf, hbf⟩; have HCF := Lib.hid hcf; have HBF := Lib.hid hbf; have HWF := Lib.hid (below_trans HWJ.out hbf); have u2 := cell_below HWF.out d2; have u3 := cell_below HWF.out d3; have z2 : wf.frozen? ⟨w.heap.size, 2, none⟩ = false := (R1.out.below HWF.out).free 2; have z3 : wf.frozen? ⟨w.heap.size, 3, none⟩ = false := (R1.out.below HWF.out).free 3; clear hcf hbf)))
  all_goals
    have hB1 : Build wj w2.heap.size [.slice aj f.locals.length cj] [innI f.locals] := Build.add (Build.nil w2.drew w2.heap.size) HBJ.out (Nat.le_refl _) HCJ.out
    have hB2 : Build wf w2.heap.size [.slice aj f.locals.length cj, .slice af f.stack.length cf] [innI f.locals, innI f.stack] := Build.add hB1 HBF.out HWJ.out.size HCF.out
    have rf := R1.out.below HWF.out
    have p3 := (rf.put 2 (.slice aj f.locals.length cj)).put 3 (.slice af f.stack.length cf)
    simp only [List.set_cons_zero, List.set_cons_succ] at p3
    have kc : Chg (fun b => b = w.heap.size) wf ((wf.setCell ⟨w.heap.size, 2, none⟩ (.slice aj f.locals.length cj)).setCell ⟨w.heap.size, 3, none⟩ (.slice af f.stack.length cf)) := ((Chg.refl (fun b => b = w.heap.size) wf).put (a := ⟨w.heap.size, 2, none⟩) rfl _).put (a := ⟨w.heap.size, 3, none⟩) rfl _
    obtain ⟨wg, hwg⟩ : ∃ wg, (wf.setCell ⟨w.heap.size, 2, none⟩ (.slice aj f.locals.length cj)).setCell ⟨w.heap.size, 3, none⟩ (.slice af f.stack.length cf) = wg := ⟨_, rfl⟩
    rw [hwg] at p3 kc ⊢
    have q2 := (R2.out.below HWF.out).chg kc (by have := Y1.out; omega)
    have g0 := p3.cell (k := 0) (by simp)
    have g1 := p3.cell (k := 1) (by simp)
    have g2 := p3.cell (k := 2) (by simp)
    have g3 := p3.cell (k := 3) (by simp)
    simp only [List.getElem_cons_zero, List.getElem_cons_succ] at g0 g1 g2 g3
    have m0 : wg.cell? ⟨w1.heap.size, 0, none⟩ = some (.int .i64 0) := q2.cell (k := 0) (by simp)
    have m1 : wg.cell? ⟨w1.heap.size, 1, none⟩ = some (.int .i64 0) := q2.cell (k := 1) (by simp)
    have m2 : wg.cell? ⟨w1.heap.size, 2, none⟩ = some (.slice none 0 0) := q2.cell (k := 2) (by simp)
    have m3 : wg.cell? ⟨w1.heap.size, 3, none⟩ = some (.slice none 0 0) := q2.cell (k := 3) (by simp)
    have n0 := q2.free 0
    have n1 := q2.free 1
    have n2 := q2.free 2
    have n3 := q2.free 3
    have e0 := q2.put 0 (.int .i64 f.fn)
    have e1 := e0.put 1 (.int .i64 f.pc)
    have e2 := e1.put 2 (.slice aj f.locals.length cj)
    have e3 := e2.put 3 (.slice af f.stack.length cf)
    have kd := ((((Chg.refl (fun b => b = w1.heap.size) wg).put (a := ⟨w1.heap.size, 0, none⟩) rfl (.int .i64 f.fn)).put (a := ⟨w1.heap.size, 1, none⟩) rfl (.int .i64 f.pc)).put (a := ⟨w1.heap.size, 2, none⟩) rfl (.slice aj f.locals.length cj)).put (a := ⟨w1.heap.size, 3, none⟩) rfl (.slice af f.stack.length cf)
    have EE := Lib.hid (And.intro (e0.cell (k := 0) (by simp)) (And.intro (e1.cell (k := 1) (by simp)) (And.intro (e2.cell (k := 2) (by simp)) (e3.cell (k := 3) (by simp)))))
    have FIN := Lib.hid (show FCopyE f w (.returned (.agg #[.int .i64 f.fn, .int .i64 f.pc, .slice aj f.locals.length cj, .slice af f.stack.length cf])) _ from
      ⟨aj, cj, af, cf, rfl, ((hB2.chg kc (fun b e => by have := Y2.out; omega)).chg kd (fun b e => by have := Y2.out; have := Y1.out; omega)).mono (by have := Y2.out; omega), Chg.below (Chg.below (below_trans B02.out HWF.out) kc (fun b e => by omega)) kd (fun b e => by have := Y1.out; omega)⟩)
    clear hB1 hB2 rf p3 kc q2 e0 e1 e2 e3 kd d2 d3 t2 t3 u2 u3 z2 z3 hwg
    go_wp2_with fail
    exact bodyPost_ret (v := .agg #[.int .i64 f.fn, .int .i64 f.pc, .slice aj f.locals.length cj, .slice af f.stack.length cf]) (by simp [results, Tryd.results88, go_sem, EE.out.1, EE.out.2.1, EE.out.2.2.1, EE.out.2.2.2]) rfl FIN.out
end Go.Proofs.YtpfgklkdldkajaaDoor
