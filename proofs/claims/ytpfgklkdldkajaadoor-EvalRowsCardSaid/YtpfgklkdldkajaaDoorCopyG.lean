/- Programs of the call's own, no two lists of which share memory; 'CopyProgram' answers one. Conditions: the program lies in memory; no list is longer than the reach. -/
import Derived.Test.YtpfgklkdldkajaaDoorGE10
namespace Go.Proofs.YtpfgklkdldkajaaDoor
open Go.RowKit

def innC (xs : List Ins) : Inn := ⟨28, 2, xs.length, insV xs⟩
/-- A function's cells; its row. -/
def KFn : Kind Fn where
  t := 31
  sz := 3
  m := 1
  cells := fun f vs => [.int .i64 f.args, .int .i64 f.locals, vs.getD 0 undef]
  rows := fun f => [innC f.code]
  len := fun _ _ => rfl
def OwnP (w : World) (base : Nat) (v : Value) (p : List Fn) (vss : List (List Value)) : Prop := OwnG KFn w base v p vss
theorem one_of {l : List Value} (h : l.length = 1) : ∃ a, l = [a] := by match l, h with | [a], _ => exact ⟨a, rfl⟩
theorem CRow.code {w : World} {base n cap : Nat} {ao : Option Addr} {xs : List Ins} (h : CRow w base 28 2 (.slice ao n cap) n (insV xs)) : ReadsC w ao xs := by
  rcases h with h | ⟨rfl, h, _⟩
  · exact h.code.2
  · have : xs = [] := by cases xs with
      | nil => rfl
      | cons x xs => simp [insV, insC] at h
    subst this
    exact ⟨by simp, fun h => absurd h (by simp)⟩
theorem OwnP.at_ {w : World} {base n cap : Nat} {ao : Option Addr} {p : List Fn} {vss : List (List Value)} (h : OwnP w base (.slice ao n cap) p vss) {k : Nat} (hk : k < p.length) :
    ∃ g off, ao = some ⟨g, off, none⟩ ∧ base ≤ g ∧ g < w.heap.size ∧ ob (.slice ao n cap) = some g ∧ ∃ hk' : k < vss.length, ∃ A1 c1, vss[k] = [.slice A1 p[k].code.length c1] ∧ InnAt w base (.slice A1 p[k].code.length c1) (innC p[k].code) ∧
      w.cell? ⟨g, off + k * 3, none⟩ = some (.int .i64 p[k].args) ∧ w.cell? ⟨g, off + k * 3 + 1, none⟩ = some (.int .i64 p[k].locals) ∧ w.cell? ⟨g, off + k * 3 + 2, none⟩ = some (.slice A1 p[k].code.length c1) ∧
      ∀ j, j < 3 → w.frozen? ⟨g, off + k * 3 + j, none⟩ = false := by
  have hl := h.len
  have hk' : k < vss.length := by omega
  obtain ⟨g, off, rfl, h1, h2, h3, hc⟩ := OwnG.cell h (by decide) hk
  obtain ⟨e, hi⟩ := h.inn k hk hk'
  obtain ⟨a, eab⟩ := one_of (show vss[k].length = 1 from e)
  have i0 := hi 0 (by rw [eab]; simp) (by simp [KFn])
  have e0 : vss[k][0]'(by rw [eab]; simp) = a := by simp [eab]
  rw [e0] at i0
  have i0' : InnAt w base a (innC p[k].code) := i0
  obtain ⟨A1, c1, ea, _, _⟩ := CRow.shape i0'
  subst ea
  have cc := fun j (hj : j < 3) => hc k hk hk' j hj
  have c0 := (cc 0 (by decide)).1
  have c1' := (cc 1 (by decide)).1
  have c2' := (cc 2 (by decide)).1
  simp only [KFn, eab, List.getElem_cons_zero, List.getElem_cons_succ, List.getD_cons_zero, Nat.add_zero] at c0 c1' c2'
  exact ⟨g, off, rfl, h1, h2, h3, hk', A1, c1, eab, i0', c0, c1', c2', fun j hj => (cc j hj).2⟩
theorem OwnP.reads {w : World} {base n cap : Nat} {ao : Option Addr} {p : List Fn} {vss : List (List Value)} (h : OwnP w base (.slice ao n cap) p vss) : n = p.length ∧ ReadsF w ao p := by
  obtain ⟨_, _, e, hm1, hm2⟩ := h.row.shape
  injection e with e1 e2 e3
  refine ⟨e2, by unfold maxLen at hm2; omega, fun h0 => ?_⟩
  obtain ⟨g, off, rfl, _⟩ := h.at_ (k := 0) h0
  refine ⟨_, rfl, fun k hk => ?_⟩
  obtain ⟨g', off', e, _, _, _, _, A1, c1, _, i0, c0, c1', c2', _⟩ := h.at_ hk
  cases e
  rw [Addr.add_lit]
  exact ⟨c0, c1', A1, c1, c2', CRow.code i0⟩
/-- A call that answers a program of its own. -/
def ProgG (p : List Fn) (w : World) (e : Ending) (w' : World) : Prop := ∃ ao cap vss, e = .returned (.agg #[.slice ao p.length cap]) ∧ OwnP w' w.heap.size (.slice ao p.length cap) p vss ∧ Below w.heap.size w w'
theorem func_src {w : World} {g : Nat} {f : Fn} {A1 : Option Addr} {n1 c1 : Nat} (h : RowAt 31 g [.int .i64 f.args, .int .i64 f.locals, .slice A1 n1 c1] w) : Src Tryd.prog 3 22 (.slice (some ⟨g, 0, none⟩) 1 1) 1 [.int .i64 f.args, .int .i64 f.locals, .slice A1 n1 c1] w :=
  Src.ofSlice _ Tryd.underlying22 _ 1 1 _ rfl (fun j u hu => by
    obtain ⟨hj, rfl⟩ := List.getElem?_eq_some_iff.1 hu
    rw [add_plain]
    exact h.cell (k := j) hj) (fun u hu => by
    simp at hu
    rcases hu with rfl | rfl | rfl <;> rfl)
/-- A function written anew: its cells, its code in memory of its own. -/
theorem OwnP.store {S : Nat → Prop} {w w1 : World} {base g off n cap : Nat} {p : List Fn} {vss : List (List Value)} (h : OwnP w base (.slice (some ⟨g, off, none⟩) n cap) p vss) {k : Nat} (hk : k < p.length) (hk' : k < vss.length) (x : Fn) (u : Value)
    (hch : Chg S w w1) (hg : ¬ S g) (hS : ∀ b, S b → ∀ i (hi : i < vss.length) q (hq : q < vss[i].length), i ≠ k → ob vss[i][q] ≠ some b) (hu : InnAt w1 base u (innC x.code)) (hat : ∀ b, ob u = some b → (∃ j', ∃ hj' : j' < vss[k].length, ob vss[k][j'] = some b) ∨ w.heap.size ≤ b) :
    OwnP (((w1.setCell ⟨g, off + k * 3, none⟩ (.int .i64 x.args)).setCell ⟨g, off + k * 3 + 1, none⟩ (.int .i64 x.locals)).setCell ⟨g, off + k * 3 + 2, none⟩ u) base (.slice (some ⟨g, off, none⟩) n cap) (p.set k x) (vss.set k [u]) := by
  have hl := h.len
  have hzl : (List.zipWith KFn.cells p vss).length = p.length := by simp [hl]
  obtain ⟨_, _, e2, hnc, _⟩ := h.row.shape
  injection e2 with _ e2 e3
  subst e2 e3
  have hob : ob (.slice (some ⟨g, off, none⟩) p.length cap) = some g := ob_some (by omega)
  have r0 := h.row.chg hch (fun b hb hb2 => by rw [hob] at hb; cases hb; exact hg hb2)
  have hki : k < (List.zipWith KFn.cells p vss).length := by omega
  rw [show List.zipWith KFn.cells p vss = (List.zipWith KFn.cells p vss).set k ((List.zipWith KFn.cells p vss)[k]) from (List.set_getElem_self _).symm] at r0
  have hL := zip_len KFn p vss
  have l0 : ((List.zipWith KFn.cells p vss)[k]).length = 3 := hL _ (List.getElem_mem hki)
  have r1 := CRow.elt_put' hL hki l0 r0 (j := 0) (by decide) (.int .i64 x.args)
  have r2 := CRow.elt_put' hL hki (by rw [List.length_set]; exact l0) r1 (j := 1) (by decide) (.int .i64 x.locals)
  have r3 := CRow.elt_put' hL hki (by rw [List.length_set, List.length_set]; exact l0) r2 (j := 2) (by decide) u
  have e : ((((List.zipWith KFn.cells p vss)[k]).set 0 (.int .i64 x.args)).set 1 (.int .i64 x.locals)).set 2 u = KFn.cells x [u] := by
    rw [List.getElem_zipWith]; rfl
  rw [e, zip_set KFn hk hl] at r3
  have c1 : Chg (fun b => b = g) w1 (((w1.setCell ⟨g, off + k * 3, none⟩ (.int .i64 x.args)).setCell ⟨g, off + k * 3 + 1, none⟩ (.int .i64 x.locals)).setCell ⟨g, off + k * 3 + 2, none⟩ u) :=
    (((Chg.refl (fun b => b = g) w1).put (a := ⟨g, off + k * 3, none⟩) rfl _).put (a := ⟨g, off + k * 3 + 1, none⟩) rfl _).put (a := ⟨g, off + k * 3 + 2, none⟩) rfl _
  exact OwnG.swap h hk hk' x [u] hch hS c1 r3 rfl (fun j hj hj' => by
    obtain rfl : j = 0 := by simpa using hj
    exact hu) (fun j hj b hb => by
    obtain rfl : j = 0 := by simpa using hj
    exact hat b hb) (fun j hj j' hj' hne => by simp at hj hj'; omega)
set_option maxRecDepth 100000 in
set_option maxHeartbeats 4000000 in
theorem copyProgramG_any (A : Option Addr) (c : Nat) (p : List Fn) (w : World) (hr : ReadsF w A p) (hz : Fits p) :
    Calls Tryd.prog 13 #[.agg #[.slice A p.length c]] w (ProgG p w) := by
  obtain ⟨w0, hw0⟩ : ∃ w0, w.alloc (.cells #[.slice A p.length c] 24) = w0 := ⟨_, rfl⟩
  obtain ⟨w1, hw1⟩ : ∃ w1, w0.alloc (.cells #[.slice none 0 0] 24) = w1 := ⟨_, rfl⟩
  obtain ⟨w2, hw2⟩ : ∃ w2, w1.alloc (.cells #[.slice none 0 0] 24) = w2 := ⟨_, rfl⟩
  have z0 : w0.heap.size = w.heap.size + 1 := by rw [← hw0]; simp
  have z1 : w1.heap.size = w.heap.size + 2 := by rw [← hw1]; simp [z0]
  have z2 : w2.heap.size = w.heap.size + 3 := by rw [← hw2]; simp [z1]
  have b0 : Below w.heap.size w w0 := hw0 ▸ below_alloc (Below.refl _ _) _
  have b01 : Below w0.heap.size w0 w1 := hw1 ▸ below_alloc (Below.refl _ _) _
  have b12 : Below w1.heap.size w1 w2 := hw2 ▸ below_alloc (Below.refl _ _) _
  have r0 : RowAt 24 w.heap.size [.slice A p.length c] w2 := ((hw0 ▸ RowAt.new _ _ w : RowAt 24 w.heap.size [.slice A p.length c] w0).below b01).below b12
  have r1 : RowAt 24 w0.heap.size [.slice none 0 0] w2 := (hw1 ▸ RowAt.new _ _ w0 : RowAt 24 w0.heap.size [.slice none 0 0] w1).below b12
  have r2 : RowAt 24 w1.heap.size [.slice none 0 0] w2 := hw2 ▸ RowAt.new _ _ w1
  have B2 := Lib.hid (below_trans (below_trans b0 b01) b12)
  have R0 := Lib.hid r0
  have R1 := Lib.hid r1
  have R2 := Lib.hid r2
  have HX := Lib.hid hr
  have HZ := Lib.hid hz
  have HNIL := Lib.hid (OwnG.nil KFn w2 w2.heap.size)
  have hn := hr.1
  clear hr hz b0 b01 b12 r0 r1 r2
  have HZS := Lib.hid (And.intro z0 (And.intro z1 z2))
  clear z0 z1 z2
  go_enter Tryd.func13, Tryd.ntmps13
  go_wp2_with fail
  clear hw0 hw1 hw2
  go_loopw [4] (fun i wr => ∃ (k : Nat) (v : Value) (vss : List (List Value)), i = .int .i64 k ∧ k ≤ p.length ∧ OwnG KFn wr w2.heap.size v (p.take k) vss ∧ RowAt 24 w.heap.size [.slice A p.length c] wr ∧ RowAt 24 w0.heap.size [.slice none 0 0] wr ∧ RowAt 24 w1.heap.size [v] wr ∧ Below w.heap.size w wr ∧ w2.heap.size ≤ wr.heap.size) (fun i _ => p.length - (intOf i).toNat)
  case atStart => exact ⟨0, _, _, rfl, Nat.zero_le _, HNIL.out, R0.out, R1.out, R2.out, B2.out, Nat.le_refl _⟩
  case round =>
    obtain ⟨k, v, vss, rfl, hk, ho, h0, h1, h2, hb, hsz⟩ := hrel
    have c0 := row_cell h0
    have HO := Lib.hid ho
    have H0 := Lib.hid h0
    have H1 := Lib.hid h1
    have H2 := Lib.hid h2
    have HB := Lib.hid hb
    have HSZ := Lib.hid hsz
    clear ho h0 h1 h2 hb hsz HNIL R0 R1 R2 B2
    by_cases hlt : k < p.length
    · obtain ⟨ad, eA, d0, d1, Ac, cc, d2, hrc⟩ := HX.out.at_ HB.out hlt
      subst eA
      have bF := below_alloc (Below.refl wr.heap.size wr) (.cells #[.int .i64 p[k].args, .int .i64 p[k].locals, .slice Ac p[k].code.length cc] 31)
      have rF : RowAt 31 wr.heap.size [.int .i64 p[k].args, .int .i64 p[k].locals, .slice Ac p[k].code.length cc] (wr.alloc (.cells #[.int .i64 p[k].args, .int .i64 p[k].locals, .slice Ac p[k].code.length cc] 31)) := RowAt.new _ _ wr
      have hfit : p[k].code.length * 16 ≤ 140737488351232 := HZ.out.2 _ (List.getElem_mem hlt)
      have HCI := Lib.hid (copyInss_any Ac cc p[k].code _ (hrc.below bF) hfit)
      have BF := Lib.hid bF
      have RF := Lib.hid rF
      clear bF rF hrc
      go_wp2_with fail
      refine HCI.out.mono ?_
      rintro e w3 ⟨ao, cap, rfl, hrow, hB3⟩
      have rF3 := RF.out.below hB3
      have f2 := rF3.free 2
      have g2 := rF3.cell (k := 2) (by simp)
      simp only [List.getElem_cons_succ, List.getElem_cons_zero] at g2
      have bl3 := below_trans BF.out hB3
      have rP := rF3.put 2 (.slice ao p[k].code.length cap)
      simp only [List.set_cons_succ, List.set_cons_zero] at rP
      have bl4 := Below.setCell bl3 (p := ⟨wr.heap.size, 2, none⟩) (Nat.le_refl _) (.slice ao p[k].code.length cap)
      obtain ⟨w4, hw4⟩ : ∃ w4, w3.setCell ⟨wr.heap.size, 2, none⟩ (.slice ao p[k].code.length cap) = w4 := ⟨_, rfl⟩
      have kw4 : Chg (fun x => x = wr.heap.size) w3 w4 := hw4 ▸ Chg.put (S := fun x => x = wr.heap.size) (Chg.refl _ w3) (a := ⟨wr.heap.size, 2, none⟩) rfl _
      have hinn : InnAt w3 (wr.heap.size + 1) (.slice ao p[k].code.length cap) (innC p[k].code) := .inl (hrow.mono (by simp))
      have hbld : Build w4 (wr.heap.size + 1) [.slice ao p[k].code.length cap] [innC p[k].code] := Build.chg (S := fun x => x = wr.heap.size) ⟨rfl, fun j hj hj' => by
        obtain rfl : j = 0 := by simpa using hj
        exact hinn, fun j hj j' hj' hne => by simp at hj hj'; omega⟩ kw4 (fun b hb => by omega)
      rw [hw4] at rP bl4
      have q1 := row_cell (H2.out.below bl4)
      have p0 := rP.cell (k := 0) (by simp)
      have p1 := rP.cell (k := 1) (by simp)
      have p2 := rP.cell (k := 2) (by simp)
      simp only [List.getElem_cons_succ, List.getElem_cons_zero] at p0 p1 p2
      have b5 := below_alloc (Below.refl w4.heap.size w4) (.cells #[.int .i64 p[k].args, .int .i64 p[k].locals, .slice ao p[k].code.length cap] 31)
      have hsrc := func_src (f := p[k]) (RowAt.new 31 [.int .i64 p[k].args, .int .i64 p[k].locals, .slice ao p[k].code.length cap] w4)
      have hkl : (p.take k).length = k := by simp; omega
      have hvin := OwnG.lo HO.out
      have HO5 := Lib.hid (OwnG.below (OwnG.below HO.out bl4) b5)
      have hrow5 := HO5.out.row
      simp only [hkl] at hrow5
      have HROW := Lib.hid hrow5
      have HBD := Lib.hid (hbld.below b5)
      have HKL := Lib.hid hkl
      have HSRC := Lib.hid hsrc
      have HVIN := Lib.hid hvin
      have S0 := Lib.hid ((H0.out.below bl4).below b5)
      have S1 := Lib.hid ((H1.out.below bl4).below b5)
      have S2 := Lib.hid ((H2.out.below bl4).below b5)
      have B5 := Lib.hid (below_trans (below_trans HB.out bl4) b5)
      have HF4 := Lib.hid (show wr.heap.size + 1 ≤ w4.heap.size by have := blk_lt rP; omega)
      obtain ⟨i0, hi0, hz0, hs0, hb0⟩ := info_parts info_func
      have HI0 := Lib.hid hi0
      have HZ0 := Lib.hid hz0
      have HS0 := Lib.hid hs0
      have HBY := Lib.hid hb0
      have hfz := HZ.out.1
      have HZLT := Lib.hid (show w1.heap.size < w2.heap.size by have := HZS.out; omega)
      have HL1 := Lib.hid (blk_lt H1.out)
      have HL2 := Lib.hid (blk_lt H2.out)
      have HL0 := Lib.hid (blk_lt H0.out)
      clear hi0 hz0 hs0 hb0 hrow hB3 rF3 bl3 rP bl4 b5 hsrc hkl hvin RF BF HCI kw4 hinn hbld hrow5
      go_upto_region 7 with fail
      go_wp2_with (first | (at_builtin; refine wpList_append_crow _ rfl _ _ 22 22 31 rfl i0 _ 3 40 Tryd.underlying22 HI0.out HZ0.out HS0.out HBY.out rfl w2.heap.size v k _ rfl HROW.out ?c1 _ 1 _ rfl HSRC.out ?c2 ?c3 ?_; rotate_left 3; intro v' w5 hG; obtain ⟨ao', cap', hv', hle', hmx'⟩ := hG.row.shape; subst hv'; have hS2 := S2.out.chg hG.chg (fun e => by have := (HVIN.out v (by simp) _ e).1; have := HZLT.out; omega); have T1 := row_cell hS2; have T2 := hS2.free 0; have HG := Lib.hid hG; have HT2 := Lib.hid hS2; clear hG hS2) | fail)
      case c1 => have := HSZ.out; have := HF4.out; simp; omega
      case c2 => omega
      case c3 => unfold maxLen; omega
      have hG := HG.out
      have kc : Chg (fun x => x = w1.heap.size) w5 (w5.setCell ⟨w1.heap.size, 0, none⟩ (.slice ao' (k + 1) cap')) := Chg.put (S := fun x => x = w1.heap.size) (Chg.refl _ w5) (a := ⟨w1.heap.size, 0, none⟩) rfl _
      have hz := HZS.out
      have hgrow := OwnG.grow_build (N := wr.heap.size + 1) (x := p[k]) (us := [.slice ao p[k].code.length cap]) HO5.out (by rw [HKL.out]; exact hG) (fun u hu b hb => by have := (HVIN.out u hu b hb).2; omega) HBD.out (by have := HSZ.out; omega)
      have F1 := OwnG.chg hgrow kc (fun u hu b hb e => by have := (OwnG.lo hgrow u hu b hb).1; omega)
      have hnv : ∀ x, x < w2.heap.size → ob v ≠ some x := fun x hx e => by have := (HVIN.out v (by simp) _ e).1; omega
      have F2 := (S0.out.chg hG.chg (hnv _ (by omega))).chg kc (by omega)
      have F3 := (S1.out.chg hG.chg (hnv _ (by omega))).chg kc (by omega)
      have F4 := HT2.out.put 0 (.slice ao' (k + 1) cap')
      simp only [List.set_cons_zero] at F4
      have F5 := Below.setCell (Chg.below B5.out hG.chg (fun b hb => by have := (HVIN.out v (by simp) _ hb).1; omega)) (p := ⟨w1.heap.size, 0, none⟩) (by simp; omega) (.slice ao' (k + 1) cap')
      have F6 : w2.heap.size ≤ (w5.setCell ⟨w1.heap.size, 0, none⟩ (.slice ao' (k + 1) cap')).heap.size := by have h1 := hG.kept.size; have := HF4.out; have := HSZ.out; simp at h1 ⊢; omega
      rw [← List.take_succ_eq_append_getElem hlt] at F1
      have HF := Lib.hid (And.intro F1 (And.intro F2 (And.intro F3 (And.intro F4 (And.intro F5 F6)))))
      clear F1 F2 F3 F4 F5 F6 hG hgrow kc hnv T1 T2
      go_wp2_with fail
      go_roundw
      case rel => exact ⟨k + 1, _, _, by go_num, by omega, HF.out.1, HF.out.2.1, HF.out.2.2.1, HF.out.2.2.2.1, HF.out.2.2.2.2.1, HF.out.2.2.2.2.2⟩
      case measure => simp only [intOf]; omega
    · have hke : p.take k = p := List.take_of_length_le (by omega)
      rw [hke] at HO
      have c2 := row_cell H2.out
      have c1 := row_cell H1.out
      have f1 := H1.out.free 0
      obtain ⟨ao, cap, rfl, _, _⟩ := HO.out.row.shape
      have kc : Chg (fun x => x = w0.heap.size) wr (wr.setCell ⟨w0.heap.size, 0, none⟩ (.slice ao p.length cap)) := Chg.put (S := fun x => x = w0.heap.size) (Chg.refl _ wr) (a := ⟨w0.heap.size, 0, none⟩) rfl _
      have hz := HZS.out
      have F1 := Lib.hid (OwnG.mono (OwnG.chg HO.out kc (fun u hu b hb e => by have := (OwnG.lo HO.out u hu b hb).1; omega)) (show w.heap.size ≤ w2.heap.size by omega))
      have F2 := Lib.hid (Below.setCell HB.out (p := ⟨w0.heap.size, 0, none⟩) (by simp; omega) (.slice ao p.length cap))
      have e1 := World.cell?_setCell_same (w := wr) (a := ⟨w0.heap.size, 0, none⟩) (v := .slice ao p.length cap) (h := c1)
      clear kc hke hz
      go_wp2_with fail
      exact bodyPost_ret (v := .agg #[.slice ao p.length cap]) (by simp [results, Tryd.results13, go_sem, e1]) rfl ⟨ao, cap, _, rfl, F1.out, F2.out⟩
end Go.Proofs.YtpfgklkdldkajaaDoor
