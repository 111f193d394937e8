/- 'frame.Start': the state that a program begins with. Conditions: the program, the args lie in memory; errors.errorType is laid. 'SameFrames', 'SameState' of the statements. Conditions: the frames, the states lie in memory as they are said. 'CopyState' of the statements: another state that is the same, of the call's own. Conditions: the state lies in memory; no list is longer than the reach. -/
import Derived.Test.YtpfgklkdldkajaaGreatDoorGZ12
namespace Go.Proofs.YtpfgklkdldkajaaGreatDoor
open Go.RowKit

def argsAt0 (p : List Fn) : Int := match p[0]? with | some g => g.args | none => 0
def startB (p : List Fn) (args : List Int) (fuel : Int) : Bool := decide (verifyOf p = 0) && decide ((args.length : Int) = argsAt0 p) && args.all isNum && decide (0 ≤ fuel) && decide (fuel ≤ 100000)
def zeroS : Stt := ⟨[], 0, [], 0, 0⟩
def startS (p : List Fn) (args : List Int) (fuel : Int) : Stt := if startB p args fuel = true then ⟨[⟨0, 0, beginL args (localsAt p 0).toNat, []⟩], fuel, [], 0, 0⟩ else zeroS
def startC (p : List Fn) (args : List Int) (fuel : Int) : Int := if startB p args fuel = true then 0 else 600
/-- A call that answers a state of its own, and an int. -/
def StateE (s : Stt) (code : Int) (w : World) (e : Ending) (w' : World) : Prop :=
  ∃ fv ov vss, e = .returned (.tuple #[sttV s fv ov, .int .i64 code]) ∧ OwnS w' w.heap.size s fv ov vss ∧ Below w.heap.size w w'
theorem OwnS.zero (w : World) (base : Nat) (f d v : Int) : OwnS w base ⟨[], f, [], d, v⟩ (.slice none 0 0) (.slice none 0 0) [] :=
  ⟨OwnG.nil _ _ _, CRow.nil _ _ _ _, fun _ _ _ _ e => by cases e⟩
theorem crow_of {w : World} {base b t sz n : Nat} {cs : List Value} (h : RowAt t b cs w) (hb : base ≤ b) (hl : cs.length = n * sz) (hm : n ≤ maxLen) : CRow w base t sz (.slice (some ⟨b, 0, none⟩) n n) n cs := .inl (ORow.of_row h hb hl hm)
/-- One frame, newly laid. -/
theorem own_one {w : World} {base g g2 L : Nat} {f : Frm} (h : RowAt 3 g (intsV f.locals) w) (hb : base ≤ g) (hL : f.locals.length = L) (h8 : L ≤ 100) (hs : f.stack = [])
    (h2 : RowAt 68 g2 [.int .i64 f.fn, .int .i64 f.pc, .slice (some ⟨g, 0, none⟩) L L, .slice none 0 0] w) (hb2 : base ≤ g2) (hne : g ≠ g2) :
    OwnFr w base (.slice (some ⟨g2, 0, none⟩) 1 1) [f] [[.slice (some ⟨g, 0, none⟩) L L, .slice none 0 0]] := by
  obtain ⟨fn, pc, ls, ss⟩ := f
  simp only at hs hL h h2
  subst hs hL
  have ob1 : ∀ {x : Nat} {b : Nat}, ob (.slice (some ⟨x, 0, none⟩) ls.length ls.length) = some b → b = x := fun {x b} h => by
    have := ob_own h
    cases this; rfl
  refine ⟨rfl, crow_of (t := KFr.t) (sz := KFr.sz) h2 hb2 rfl (by decide), fun k hk hk' => ?_, ?_, ?_⟩
  · obtain rfl : k = 0 := by simpa using hk
    refine ⟨rfl, fun j hj hj' => ?_⟩
    match j, hj with
    | 0, _ => exact crow_of (sz := 1) h hb (show (intsV ls).length = ls.length * 1 by rw [intsV_len, Nat.mul_one]) (by unfold maxLen; omega)
    | 1, _ => exact CRow.nil _ _ _ _
  · intro k hk j hj b hb
    obtain rfl : k = 0 := by simpa using hk
    have e := ob_own hb
    cases e
    match j, hj with
    | 0, _ => exact fun h => hne (ob1 h).symm
    | 1, _ => exact fun h => by cases h
  · intro k hk j hj k' hk' j' hj' hne b hb
    obtain rfl : k = 0 := by simpa using hk
    obtain rfl : k' = 0 := by simpa using hk'
    match j, hj, j', hj' with
    | 0, _, 0, _ => exact absurd rfl (hne.resolve_left (by simp))
    | 0, _, 1, _ => exact fun h => by cases h
    | 1, _, _, _ => exact absurd hb (fun h => by cases h)
/-- Five cells, written one behind the other. -/
theorem put5 {t b : Nat} {cs : List Value} {w : World} (h : RowAt t b cs w) (hl : cs.length = 5) (v0 v1 v2 v3 v4 : Value) :
    ((w.setCell ⟨b, 0, none⟩ v0).cell? ⟨b, 0, none⟩ = some v0 ∧ ((w.setCell ⟨b, 0, none⟩ v0).setCell ⟨b, 1, none⟩ v1).cell? ⟨b, 1, none⟩ = some v1 ∧ (((w.setCell ⟨b, 0, none⟩ v0).setCell ⟨b, 1, none⟩ v1).setCell ⟨b, 2, none⟩ v2).cell? ⟨b, 2, none⟩ = some v2 ∧
      ((((w.setCell ⟨b, 0, none⟩ v0).setCell ⟨b, 1, none⟩ v1).setCell ⟨b, 2, none⟩ v2).setCell ⟨b, 3, none⟩ v3).cell? ⟨b, 3, none⟩ = some v3 ∧ (((((w.setCell ⟨b, 0, none⟩ v0).setCell ⟨b, 1, none⟩ v1).setCell ⟨b, 2, none⟩ v2).setCell ⟨b, 3, none⟩ v3).setCell ⟨b, 4, none⟩ v4).cell? ⟨b, 4, none⟩ = some v4) ∧
      Keeps b w (((((w.setCell ⟨b, 0, none⟩ v0).setCell ⟨b, 1, none⟩ v1).setCell ⟨b, 2, none⟩ v2).setCell ⟨b, 3, none⟩ v3).setCell ⟨b, 4, none⟩ v4) := by
  match cs, hl with
  | [c0, c1, c2, c3, c4], _ =>
    have s0 := h.put 0 v0
    have s1 := s0.put 1 v1
    have s2 := s1.put 2 v2
    have s3 := s2.put 3 v3
    have s4 := s3.put 4 v4
    exact ⟨⟨s0.cell (k := 0) (by simp), s1.cell (k := 1) (by simp), s2.cell (k := 2) (by simp), s3.cell (k := 3) (by simp), s4.cell (k := 4) (by simp)⟩, ((((Keeps.refl b w).put 0 v0).put 1 v1).put 2 v2).put 3 v3 |>.put 4 v4⟩
theorem startB_no {p : List Fn} {args : List Int} {fuel : Int} (h : startB p args fuel = false) : startS p args fuel = zeroS ∧ startC p args fuel = 600 := by
  unfold startS startC; rw [h]; exact ⟨rfl, rfl⟩
set_option maxRecDepth 100000 in
set_option maxHeartbeats 4000000 in
theorem start_any (p : List Fn) (Ap A : Option Addr) (cp c : Nat) (args : List Int) (fuel : Int) (w : World) (hl : Laid w) (hr : ReadsF w Ap p) (ha : ReadsI w A args) :
    Calls Tryz.prog 74 #[.agg #[.slice Ap p.length cp], .slice A args.length c, .int .i64 fuel] w (StateE (startS p args fuel) (startC p args fuel) w) := by
  obtain ⟨w1, hw1⟩ : ∃ w1, w.alloc (.cells #[.slice Ap p.length cp] 24) = w1 := ⟨_, rfl⟩
  obtain ⟨w2, hw2⟩ : ∃ w2, w1.alloc (.cells #[.slice none 0 0, .int .i64 0, .slice none 0 0, .int .i64 0, .int .i64 0] 47) = w2 := ⟨_, rfl⟩
  have b1 : Below w.heap.size w w1 := hw1 ▸ below_alloc (Below.refl _ _) _
  have b2 : Below w1.heap.size w1 w2 := hw2 ▸ below_alloc (Below.refl _ _) _
  have z1 : w1.heap.size = w.heap.size + 1 := by rw [← hw1]; simp
  have r1 : RowAt 24 w.heap.size [.slice Ap p.length cp] w2 := (hw1 ▸ RowAt.new _ _ w : RowAt 24 w.heap.size [.slice Ap p.length cp] w1).below b2
  have r2 : RowAt 47 w1.heap.size [.slice none 0 0, .int .i64 0, .slice none 0 0, .int .i64 0, .int .i64 0] w2 := hw2 ▸ RowAt.new _ _ w1
  have B2 := Lib.hid (below_trans b1 b2)
  have R1 := Lib.hid r1
  have R2 := Lib.hid r2
  have Z1 := Lib.hid z1
  have HRF := Lib.hid (hr.below B2.out)
  have HAR := Lib.hid (ha.below B2.out)
  have hna := ha.1
  have HP := Lib.hid (program_any p Ap cp w2 (hl.below B2.out) HRF.out)
  obtain ⟨vf, hvf⟩ : ∃ vf, verifyOf p = vf := ⟨_, rfl⟩
  have HVF := Lib.hid hvf
  rw [hvf] at HP
  have q1 := row_cell r1
  clear hvf b1 b2 r1 r2 hl hr ha z1
  by_cases hv : vf = 0
  · have dv : (vf != 0) = false := by simpa using hv
    have HV := Lib.hid (HVF.out.trans hv)
    have hp1 := (packs_len (verifyOf_packs HV.out)).1
    obtain ⟨a0, a4, al, l8, _⟩ := fnMay_of (packs_fn (verifyOf_packs HV.out) (k := 0) hp1)
    obtain ⟨L, hL⟩ := Int.eq_ofNat_of_zero_le (show 0 ≤ p[0].locals by omega)
    have HL := Lib.hid hL
    have L8 : L ≤ 100 := by omega
    have hea : argsAt0 p = p[0].args := by unfold argsAt0; rw [List.getElem?_eq_getElem hp1]
    have hel : localsAt p 0 = L := by unfold localsAt; rw [show (0 : Int).toNat = 0 from rfl, List.getElem?_eq_getElem hp1]; exact hL
    have HE := Lib.hid (show startB p args fuel = (decide ((args.length : Int) = p[0].args) && args.all isNum && decide (0 ≤ fuel) && decide (fuel ≤ 100000)) by unfold startB; rw [HV.out, hea]; rfl)
    have HEL := Lib.hid hel
    have AL := Lib.hid al
    clear hv a0 a4 al l8 hL hea hel
    go_enter Tryz.func74, Tryz.ntmps74
    go_wp2_with fail
    refine HP.out.mono ?_
    rintro e w3 ⟨rfl, hB⟩
    have B3 := Lib.hid (below_trans B2.out hB)
    have B23 := Lib.hid hB
    have HRF3 := Lib.hid (HRF.out.below hB)
    have t1 := R1.out.below hB
    have t2 := R2.out.below hB
    have k1 := row_cell t1
    obtain ⟨ad, eA, Ac, cc, hF⟩ := fnAt_of HRF3.out (Below.refl _ _) hp1
    subst eA
    have k2 := hF.c0
    simp only [Nat.zero_mul, add_nil] at k2
    have f0 := t2.free 0
    have f1 := t2.free 1
    have f2 := t2.free 2
    have f3 := t2.free 3
    have f4 := t2.free 4
    have g0 := t2.cell (k := 0) (by simp)
    have g1 := t2.cell (k := 1) (by simp)
    have g2 := t2.cell (k := 2) (by simp)
    have g3 := t2.cell (k := 3) (by simp)
    have g4 := t2.cell (k := 4) (by simp)
    simp only [List.getElem_cons_succ, List.getElem_cons_zero] at g0 g1 g2 g3 g4
    have T2 := Lib.hid t2
    have HA := Lib.hid (wrapAll_any A c args w3 (HAR.out.below hB))
    have HB := Lib.hid (fun (hle : args.length ≤ L) => begin_any ⟨w.heap.size, 0, none⟩ p (some ad) A cp c 0 L args w3 k1 HRF3.out hp1 HL.out L8 (HAR.out.below hB) hle)
    obtain ⟨xa, exa⟩ : ∃ xa, args.all isNum = xa := ⟨_, rfl⟩
    rw [exa] at HA HE
    obtain ⟨pa, epa⟩ : ∃ pa, p[0].args = pa := ⟨_, rfl⟩
    rw [epa] at k2 HE AL
    clear hB t1 t2 hF q1 hw1 hw2 exa epa
    by_cases hgo : ((args.length : Int) = pa ∧ xa = true ∧ 0 ≤ fuel ∧ fuel ≤ 100000)
    · obtain ⟨h1, rfl, h2, h3⟩ := hgo
      have d1 : ((args.length : Int) != pa) = false := by simpa using h1
      have d2 : decide (fuel < 0) = false := by simpa using h2
      have d3 : decide (100000 < fuel) = false := by simpa using h3
      have HS := Lib.hid (show startB p args fuel = true by rw [HE.out, decide_eq_true h1, decide_eq_true h2, decide_eq_true h3]; rfl)
      have HLE := Lib.hid (show args.length ≤ L by have := AL.out; have := HL.out; omega)
      clear h1
      go_wp2_with (go_at_call 47; refine HA.out.mono ?_; rintro e w' ⟨rfl, rfl⟩)
      refine (HB.out HLE.out).mono ?_
      rintro e w4 ⟨g, rfl, hrg, hgl, hB4⟩
      obtain ⟨w5, hw5⟩ : ∃ w5, w4.alloc (.cells #[.int .i64 0, .int .i64 0, .slice (some ⟨g, 0, none⟩) L L, .slice none 0 0] 68) = w5 := ⟨_, rfl⟩
      have b5 : Below w4.heap.size w4 w5 := hw5 ▸ below_alloc (Below.refl _ _) _
      have r5 : RowAt 68 w4.heap.size [.int .i64 0, .int .i64 0, .slice (some ⟨g, 0, none⟩) L L, .slice none 0 0] w5 := hw5 ▸ RowAt.new _ _ w4
      have b35 := below_trans hB4 b5
      have t5 := T2.out.below b35
      have f0 := t5.free 0
      have f1 := t5.free 1
      have f2 := t5.free 2
      have f3 := t5.free 3
      have f4 := t5.free 4
      have g0 := t5.cell (k := 0) (by simp)
      have g1 := t5.cell (k := 1) (by simp)
      have g2 := t5.cell (k := 2) (by simp)
      have g3 := t5.cell (k := 3) (by simp)
      have g4 := t5.cell (k := 4) (by simp)
      simp only [List.getElem_cons_succ, List.getElem_cons_zero] at g0 g1 g2 g3 g4
      have pz := put5 t5 rfl (.slice (some ⟨w4.heap.size, 0, none⟩) 1 1) (.int .i64 fuel) (.slice none 0 0) (.int .i64 0) (.int .i64 0)
      have hzz := B3.out.size
      have hz2 := B23.out.size
      have hz3 := blk_lt T2.out
      have hz4 := hB4.size
      have hgs := blk_lt hrg
      have EE := Lib.hid pz.1
      have KB := Lib.hid (below_keep (below_trans B3.out b35) pz.2 (by have := Z1.out; omega))
      have OF := Lib.hid (own_one (base := w.heap.size) (f := ⟨0, 0, beginL args L, []⟩) ((hrg.below b5).keeps pz.2 (by omega)) (by omega) (beginL_len HLE.out) L8 rfl (r5.keeps pz.2 (by omega)) (by omega) (by omega))
      clear pz hzz hz2 hz3 hz4 hgs b5 r5 b35 t5 hrg hgl hB4
      go_wp2_with fail
      have hS : startS p args fuel = ⟨[⟨0, 0, beginL args L, []⟩], fuel, [], 0, 0⟩ := by unfold startS; rw [if_pos HS.out, HEL.out]; rfl
      have hC : startC p args fuel = 0 := by unfold startC; rw [if_pos HS.out]
      exact bodyPost_ret (v := .tuple #[.agg #[.slice (some ⟨w4.heap.size, 0, none⟩) 1 1, .int .i64 fuel, .slice none 0 0, .int .i64 0, .int .i64 0], .int .i64 0]) (by simp [results, Tryz.results74, go_sem, EE.out.1, EE.out.2.1, EE.out.2.2.1, EE.out.2.2.2.1, EE.out.2.2.2.2]) rfl
        ⟨_, .slice none 0 0, _, by rw [hS, hC]; rfl, by rw [hS]; exact ⟨OF.out, CRow.nil _ _ _ _, fun u hu b hb e => by cases e⟩, KB.out⟩
    · have HS := Lib.hid (show startB p args fuel = false by
        rw [HE.out]
        cases xa
        · simp
        · cases h : (decide ((args.length : Int) = pa) && true && decide (0 ≤ fuel) && decide (fuel ≤ 100000)) with
          | false => rfl
          | true =>
            simp only [Bool.and_eq_true, decide_eq_true_eq, and_true] at h
            exact absurd ⟨h.1.1, rfl, h.1.2, h.2⟩ hgo)
      clear hgo
      have pz := put5 T2.out rfl (.slice none 0 0) (.int .i64 0) (.slice none 0 0) (.int .i64 0) (.int .i64 0)
      have EE := Lib.hid pz.1
      have KB := Lib.hid (below_keep B3.out pz.2 (by have := Z1.out; omega))
      clear pz
      go_wp2_with (go_at_call 47; refine HA.out.mono ?_; rintro e w' ⟨rfl, rfl⟩)
      all_goals first
        | (refine bodyPost_ret (v := .tuple #[.agg #[.slice none 0 0, .int .i64 0, .slice none 0 0, .int .i64 0, .int .i64 0], .int .i64 600]) ?_ rfl ?_; (· simp [results, Tryz.results74, go_sem, EE.out.1, EE.out.2.1, EE.out.2.2.1, EE.out.2.2.2.1, EE.out.2.2.2.2]); exact ⟨.slice none 0 0, .slice none 0 0, [], by rw [(startB_no HS.out).1, (startB_no HS.out).2]; rfl, by rw [(startB_no HS.out).1]; exact OwnS.zero _ _ _ _ _, KB.out⟩)
        | (exfalso; have h := HE.out; rw [HS.out] at h; simp_all; done)
        | (exfalso; have h := HE.out; rw [HS.out] at h; simp_all; omega)
  · have dv : (vf != 0) = true := by simpa using hv
    have HS := Lib.hid (show startB p args fuel = false by unfold startB; rw [HVF.out, decide_eq_false hv]; rfl)
    clear hv
    go_enter Tryz.func74, Tryz.ntmps74
    go_wp2_with fail
    refine HP.out.mono ?_
    rintro e w3 ⟨rfl, hB⟩
    have t2 := R2.out.below hB
    have f0 := t2.free 0
    have f1 := t2.free 1
    have f2 := t2.free 2
    have f3 := t2.free 3
    have f4 := t2.free 4
    have g0 := t2.cell (k := 0) (by simp)
    have g1 := t2.cell (k := 1) (by simp)
    have g2 := t2.cell (k := 2) (by simp)
    have g3 := t2.cell (k := 3) (by simp)
    have g4 := t2.cell (k := 4) (by simp)
    simp only [List.getElem_cons_succ, List.getElem_cons_zero] at g0 g1 g2 g3 g4
    have B3 := Lib.hid (below_trans B2.out hB)
    have pz := put5 t2 rfl (.slice none 0 0) (.int .i64 0) (.slice none 0 0) (.int .i64 0) (.int .i64 0)
    have EE := Lib.hid pz.1
    have KB := Lib.hid (below_keep B3.out pz.2 (by have := Z1.out; omega))
    clear pz
    clear hB t2
    go_wp2_with fail
    exact bodyPost_ret (v := .tuple #[.agg #[.slice none 0 0, .int .i64 0, .slice none 0 0, .int .i64 0, .int .i64 0], .int .i64 600]) (by simp [results, Tryz.results74, go_sem, EE.out.1, EE.out.2.1, EE.out.2.2.1, EE.out.2.2.2.1, EE.out.2.2.2.2]) rfl
          ⟨.slice none 0 0, .slice none 0 0, [], by rw [(startB_no HS.out).1, (startB_no HS.out).2]; rfl, by rw [(startB_no HS.out).1]; exact OwnS.zero _ _ _ _ _, KB.out⟩
end Go.Proofs.YtpfgklkdldkajaaGreatDoor

namespace Go.Proofs.YtpfgklkdldkajaaGreatDoor
open Go.RowKit

theorem frm_ext {x y : Frm} (h1 : x.fn = y.fn) (h2 : x.pc = y.pc) (h3 : x.locals = y.locals) (h4 : x.stack = y.stack) : x = y := by cases x; cases y; simp only at h1 h2 h3 h4; rw [h1, h2, h3, h4]
theorem quiet_back {w w' : World} {n m : Nat} (h : w' = (w.drewN n).drewN m ∨ w' = w.drewN m) : ∃ k, w' = w.drewN k := by
  rcases h with h | h
  · exact ⟨n + m, by rw [h, drewN_two]⟩
  · exact ⟨m, h⟩
set_option maxRecDepth 100000 in
set_option maxHeartbeats 4000000 in
theorem sameFrames_any (A B : Option Addr) (ca cb : Nat) (xs ys : List Frm) (w : World) (hx : ReadsFr w A xs) (hy : ReadsFr w B ys) :
    Calls Tryz.prog 66 #[.slice A xs.length ca, .slice B ys.length cb] w (RetD (.bool (decide (xs = ys))) w) := by
  have HX := Lib.hid hx
  have HY := Lib.hid hy
  have n1 : xs.length ≤ 9223372036854775807 := hx.1
  have n2 : ys.length ≤ 9223372036854775807 := hy.1
  clear hx hy
  by_cases hl : xs.length = ys.length
  case neg =>
    have dl : (xs.length != ys.length) = true := by simpa using hl
    have dm : ((xs.length : Int) != ys.length) = true := by simp; omega
    have HL := Lib.hid hl
    clear hl
    go_enter Tryz.func66, Tryz.ntmps66
    go_wp2_with fail
    go_ret
    exact ⟨ret_bool (ne_len HL.out).symm, 0, rfl⟩
  have dl : (xs.length != ys.length) = false := by simpa using hl
  have dm : ((xs.length : Int) != ys.length) = false := by simp; omega
  have HL := Lib.hid hl
  clear hl
  go_enter Tryz.func66, Tryz.ntmps66
  go_wp2_with fail
  clear dl dm
  go_loopw [5] (fun i wr => ∃ k : Nat, k ≤ xs.length ∧ i = .int .i64 k ∧ (∀ j (hx : j < xs.length) (hy : j < ys.length), j < k → xs[j] = ys[j]) ∧ ∃ n, wr = w.drewN n) (fun i _ => xs.length - (intOf i).toNat)
  case atStart => exact ⟨0, Nat.zero_le _, rfl, fun _ _ _ h => absurd h (Nat.not_lt_zero _), 0, rfl⟩
  case round =>
    obtain ⟨k, hk, rfl, hv, n, rfl⟩ := hrel
    have HV := Lib.hid hv
    clear hv
    by_cases hlt : k < xs.length
    case neg =>
      go_wp2_with fail
      go_ret
      exact ⟨ret_bool (eq_all HL.out fun j hx hy => HV.out j hx hy (by omega)).symm, _, rfl⟩
    have hly : k < ys.length := by have := HL.out; omega
    obtain ⟨a1, e1, c0, c1, ⟨L1, cl1, c2, r1⟩, S1, cs1, c3, r2⟩ := HX.out.at_ (Below.refl _ _) hlt
    obtain ⟨a2, e2, d0, d1, ⟨L2, cl2, d2, r3⟩, S2, cs2, d3, r4⟩ := HY.out.at_ (Below.refl _ _) hly
    subst e1 e2
    have HLS := Lib.hid (fun m => sameInts_any L1 L2 cl1 cl2 xs[k].locals ys[k].locals (w.drewN m) (r1.below (below_drew (Below.refl _ _) _)) (r3.below (below_drew (Below.refl _ _) _)))
    have HSS := Lib.hid (fun m => sameInts_any S1 S2 cs1 cs2 xs[k].stack ys[k].stack (w.drewN m) (r2.below (below_drew (Below.refl _ _) _)) (r4.below (below_drew (Below.refl _ _) _)))
    clear r1 r2 r3 r4
    by_cases h1 : xs[k].fn = ys[k].fn
    case neg =>
      have t1 : (xs[k].fn != ys[k].fn) = true := by simpa using h1
      have HE := Lib.hid (ne_at hlt hly (fun e => h1 (by rw [e])))
      clear h1
      go_wp2_with fail
      go_quiet (fail)
      go_wp2_with fail
      go_ret
      exact ⟨ret_bool HE.out.symm, by first | exact ⟨_, rfl⟩ | exact ⟨_, drewN_two _ _ _⟩⟩
    have t1 : (xs[k].fn != ys[k].fn) = false := by simpa using h1
    by_cases h2 : xs[k].pc = ys[k].pc
    case neg =>
      have t2 : (xs[k].pc != ys[k].pc) = true := by simpa using h2
      have HE := Lib.hid (ne_at hlt hly (fun e => h2 (by rw [e])))
      clear h1 h2
      go_wp2_with fail
      go_quiet (fail)
      go_wp2_with fail
      go_ret
      exact ⟨ret_bool HE.out.symm, by first | exact ⟨_, rfl⟩ | exact ⟨_, drewN_two _ _ _⟩⟩
    have t2 : (xs[k].pc != ys[k].pc) = false := by simpa using h2
    have H1 := Lib.hid h1
    have H2 := Lib.hid h2
    clear h1 h2
    by_cases h3 : xs[k].locals = ys[k].locals
    case neg =>
      have HE := Lib.hid (ne_at hlt hly (fun e => h3 (by rw [e])))
      rw [decide_eq_false h3] at HLS
      clear h3
      go_wp2_with fail
      go_quiet ((go_at_call 35; with_reducible (first | exact RetD.quiet0 (HLS.out _) | exact RetD.quiet (HLS.out _))))
      go_wp2_with fail
      go_ret
      exact ⟨ret_bool HE.out.symm, by first | exact ⟨_, rfl⟩ | exact ⟨_, drewN_two _ _ _⟩⟩
    rw [decide_eq_true h3] at HLS
    have H3 := Lib.hid h3
    clear h3
    by_cases h4 : xs[k].stack = ys[k].stack
    case neg =>
      have HE := Lib.hid (ne_at hlt hly (fun e => h4 (by rw [e])))
      rw [decide_eq_false h4] at HSS
      clear h4
      go_wp2_with fail
      go_quiet ((go_at_call 35; with_reducible (first | exact RetD.quiet0 (HLS.out _) | exact RetD.quiet (HLS.out _) | exact RetD.quiet0 (HSS.out _) | exact RetD.quiet (HSS.out _))))
      go_wp2_with fail
      go_ret
      exact ⟨ret_bool HE.out.symm, by first | exact ⟨_, rfl⟩ | exact ⟨_, drewN_two _ _ _⟩⟩
    rw [decide_eq_true h4] at HSS
    have H4 := Lib.hid h4
    clear h4
    go_wp2_with fail
    go_quiet ((go_at_call 35; with_reducible (first | exact RetD.quiet0 (HLS.out _) | exact RetD.quiet (HLS.out _) | exact RetD.quiet0 (HSS.out _) | exact RetD.quiet (HSS.out _))))
    go_wp2_with fail
    go_roundw
    case rel => exact ⟨k + 1, by omega, by go_num, fun j hx hy h => by
      rcases Nat.lt_or_ge j k with h2 | h2
      · exact HV.out j hx hy h2
      · obtain rfl : j = k := by omega
        exact frm_ext H1.out H2.out H3.out H4.out, by first | exact ⟨_, rfl⟩ | exact ⟨_, drewN_two _ _ _⟩⟩
    case measure => simp only [intOf]; omega
/-- A state, as it is read. -/
structure ReadsS (w : World) (s : Stt) (A Ao : Option Addr) : Prop where
  fr : ReadsFr w A s.frames
  out : ReadsI w Ao s.out
theorem ReadsS.below {w w1 : World} {s : Stt} {A Ao : Option Addr} (h : ReadsS w s A Ao) (hb : Below w.heap.size w w1) : ReadsS w1 s A Ao := ⟨h.fr.below hb, h.out.below hb⟩
theorem OwnS.reads {w : World} {base : Nat} {s : Stt} {fv ov : Value} {vss : List (List Value)} (h : OwnS w base s fv ov vss) : ∃ A c Ao co, fv = .slice A s.frames.length c ∧ ov = .slice Ao s.out.length co ∧ s.frames.length ≤ c ∧ ReadsS w s A Ao := by
  obtain ⟨A, c, rfl, h1, _⟩ := h.fr.row.shape
  obtain ⟨Ao, co, rfl, _, _⟩ := h.out.shape
  exact ⟨A, c, Ao, co, rfl, rfl, h1, h.fr.reads.2, h.out.ints⟩
set_option maxRecDepth 100000 in
set_option maxHeartbeats 4000000 in
theorem sameState_any (x y : Stt) (A Ao B Bo : Option Addr) (c co d dO : Nat) (w : World) (hx : ReadsS w x A Ao) (hy : ReadsS w y B Bo) :
    Calls Tryz.prog 28 #[sttV x (.slice A x.frames.length c) (.slice Ao x.out.length co), sttV y (.slice B y.frames.length d) (.slice Bo y.out.length dO)] w (Ret (.bool (decide (x = y))) w) := by
  obtain ⟨xf, xfu, xo, xd, xv⟩ := x
  obtain ⟨yf, yfu, yo, yd, yv⟩ := y
  obtain ⟨h1, h2⟩ := hx
  obtain ⟨h3, h4⟩ := hy
  unfold sttV
  simp only at h1 h2 h3 h4 ⊢
  obtain ⟨w1, hw1⟩ : ∃ w1, w.alloc (.cells #[.slice A xf.length c, .int .i64 xfu, .slice Ao xo.length co, .int .i64 xd, .int .i64 xv] 47) = w1 := ⟨_, rfl⟩
  obtain ⟨w2, hw2⟩ : ∃ w2, w1.alloc (.cells #[.slice B yf.length d, .int .i64 yfu, .slice Bo yo.length dO, .int .i64 yd, .int .i64 yv] 47) = w2 := ⟨_, rfl⟩
  have b1 : Below w.heap.size w w1 := hw1 ▸ below_alloc (Below.refl _ _) _
  have b2 : Below w1.heap.size w1 w2 := hw2 ▸ below_alloc (Below.refl _ _) _
  have b12 := below_trans b1 b2
  have r1 : RowAt 47 w.heap.size [.slice A xf.length c, .int .i64 xfu, .slice Ao xo.length co, .int .i64 xd, .int .i64 xv] w2 := (hw1 ▸ RowAt.new _ _ w : RowAt 47 w.heap.size _ w1).below b2
  have r2 : RowAt 47 w1.heap.size [.slice B yf.length d, .int .i64 yfu, .slice Bo yo.length dO, .int .i64 yd, .int .i64 yv] w2 := hw2 ▸ RowAt.new _ _ w1
  have k0 := r1.cell (k := 0) (by simp)
  have k1 := r1.cell (k := 1) (by simp)
  have k2 := r1.cell (k := 2) (by simp)
  have k3 := r1.cell (k := 3) (by simp)
  have k4 := r1.cell (k := 4) (by simp)
  have l0 := r2.cell (k := 0) (by simp)
  have l1 := r2.cell (k := 1) (by simp)
  have l2 := r2.cell (k := 2) (by simp)
  have l3 := r2.cell (k := 3) (by simp)
  have l4 := r2.cell (k := 4) (by simp)
  simp only [List.getElem_cons_succ, List.getElem_cons_zero] at k0 k1 k2 k3 k4 l0 l1 l2 l3 l4
  have HO := Lib.hid (sameInts_any Ao Bo co dO xo yo w2 (h2.below b12) (h4.below b12))
  have HF := Lib.hid (fun n => sameFrames_any A B c d xf yf (w2.drewN n) (h1.below (below_drew b12 n)) (h3.below (below_drew b12 n)))
  have HB := Lib.hid b12
  have HE := Lib.hid (show decide ((⟨xf, xfu, xo, xd, xv⟩ : Stt) = ⟨yf, yfu, yo, yd, yv⟩) = (decide (xfu = yfu) && decide (xd = yd) && decide (xv = yv) && decide (xo = yo) && decide (xf = yf)) by
    rw [Bool.eq_iff_iff]; simp only [decide_eq_true_eq, Bool.and_eq_true, Stt.mk.injEq]
    constructor
    · rintro ⟨a, b, c, d, e⟩; exact ⟨⟨⟨⟨b, d⟩, e⟩, c⟩, a⟩
    · rintro ⟨⟨⟨⟨a, b⟩, c⟩, d⟩, e⟩; exact ⟨e, a, d, b, c⟩)
  rw [HE.out]
  obtain ⟨bo, ebo⟩ : ∃ bo, decide (xo = yo) = bo := ⟨_, rfl⟩
  obtain ⟨bf, ebf⟩ : ∃ bf, decide (xf = yf) = bf := ⟨_, rfl⟩
  rw [ebo] at HO ⊢
  rw [ebf] at HF ⊢
  clear b1 b2 b12 r1 r2 h1 h2 h3 h4 HE ebo ebf
  go_enter Tryz.func28, Tryz.ntmps28
  go_wp2_with (first | (go_at_call 35; refine HO.out.mono ?_; rintro e w' ⟨rfl, n, rfl⟩) | (go_at_call 66; refine (HF.out _).mono ?_; rintro e w' ⟨rfl, m, rfl⟩))
  all_goals go_ret
  all_goals refine ret_tail ?_ HB.out (by first | exact Below.refl _ _ | exact below_drew (Below.refl _ _) _ | (rw [drewN_two]; exact below_drew (Below.refl _ _) _))
  all_goals clear HO HF HB k0 k1 k2 k3 k4 l0 l1 l2 l3 l4
  all_goals first | (simp_all; done) | (cases bo <;> simp_all [beq_dec]; done)
end Go.Proofs.YtpfgklkdldkajaaGreatDoor

namespace Go.Proofs.YtpfgklkdldkajaaGreatDoor
open Go.RowKit

theorem append_copy {W : World} {A : Option Addr} {c : Nat} {xs : List Int} (hr : ReadsI W A xs) (hz : xs.length * 8 ≤ 140737488351232) :
    ∃ ao cap W', (Builtin.append_ #[28, 28] 28 #[.slice (some ⟨W.heap.size, 0, none⟩) 0 0, .slice A xs.length c]).run Tryz.prog (W.alloc (.cells #[] 3)) = .ok (.slice ao xs.length cap) W' ∧ CRow W' W.heap.size 3 1 (.slice ao xs.length cap) xs.length (intsV xs) ∧ Below W.heap.size W W' := by
  obtain ⟨i, hi, hz0, hs, hb⟩ := info_parts info_int
  have b1 : Below W.heap.size W (W.alloc (.cells #[] 3)) := below_alloc (Below.refl _ _) _
  obtain ⟨v', W', hrun, hG⟩ := run_append_crow (P := Tryz.prog) (W.alloc (.cells #[] 3)) 28 3 28 28 i (.int .i64 0) 1 8 Tryz.underlying28 hi hz0 hs hb rfl W.heap.size (some ⟨W.heap.size, 0, none⟩) 0 0 [] (.inr ⟨rfl, rfl, _, rfl⟩) (by simp)
    (.slice A xs.length c) xs.length (intsV xs) (ints_src Tryz.underlying28 (hr.below b1) (reads_none hr)) (by omega) (by unfold maxLen; omega)
  have hrow := hG.row
  rw [Nat.zero_add, List.nil_append] at hrow
  obtain ⟨ao, cap, rfl, _, _⟩ := hrow.shape
  exact ⟨ao, cap, W', hrun, hrow, (Chg.below b1 hG.chg (fun b hb => by cases hb))⟩
/-- 'append' by its run. -/
theorem wpList_append_run {P : Program} {ops : Array Oper} {rest : List Oper} {o : Oper} {a : Act} {Q : Exit → Act → World → Prop} (w : World) (hg : o.guard = none) (s x : Operand) (ts tx : TypeId)
    (hop : o.op = Op.call { callee := Callee.builtin Builtin.append, args := #[s, x], argTypes := #[ts, tx] }) (sv xv v' : Value) (w' : World) (hs : a.eval s = sv) (hx : a.eval x = xv)
    (hrun : (Builtin.append_ #[ts, tx] o.type #[sv, xv]).run P w = .ok v' w') (h : wpList P ops Q rest (a.put o.dst v') w') : wpList P ops Q (o :: rest) a w := by
  refine wpList_plain hg fun K hK' => ?_
  unfold Oper.wp
  simp [execOp, hop, resolve, invoke, builtin, hs, hx, hrun, Result.andThen]
  exact hK' _ _ h
theorem Chg.of_keeps {g : Nat} {w w1 : World} (h : Keeps g w w1) : Chg (fun b => b = g) w w1 := Chg.of_grown h (fun _ e => by cases e; rfl)
def FitS (s : Stt) : Prop := s.frames.length * 64 ≤ 140737488351232 ∧ s.out.length * 8 ≤ 140737488351232 ∧ ∀ f ∈ s.frames, f.locals.length * 8 ≤ 140737488351232 ∧ f.stack.length * 8 ≤ 140737488351232
theorem info_frame : (Tryz.prog.info? 68).map (fun i => (i.zero, i.size, i.bytes)) = some (some (.agg #[.int .i64 0, .int .i64 0, .slice none 0 0, .slice none 0 0]), 4, 64) := by kernel_rfl
/-- A call that answers a state of its own. -/
def CopyE (s : Stt) (w : World) (e : Ending) (w' : World) : Prop := ∃ fv ov vss, e = .returned (sttV s fv ov) ∧ OwnS w' w.heap.size s fv ov vss ∧ Below w.heap.size w w'
set_option maxRecDepth 100000 in
set_option maxHeartbeats 4000000 in
theorem copyState_any (s : Stt) (A Ao : Option Addr) (c co : Nat) (w : World) (hr : ReadsS w s A Ao) (hz : FitS s) :
    Calls Tryz.prog 25 #[sttV s (.slice A s.frames.length c) (.slice Ao s.out.length co)] w (CopyE s w) := by
  obtain ⟨fs, fuel, out, done, value⟩ := s
  obtain ⟨hf, ho⟩ := hr
  obtain ⟨z1, z2, z3⟩ := hz
  unfold sttV
  simp only at hf ho z1 z2 z3 ⊢
  obtain ⟨w1, hw1⟩ : ∃ w1, w.alloc (.cells #[.slice A fs.length c, .int .i64 fuel, .slice Ao out.length co, .int .i64 done, .int .i64 value] 47) = w1 := ⟨_, rfl⟩
  obtain ⟨w2, hw2⟩ : ∃ w2, w1.alloc (.cells #[.slice none 0 0, .int .i64 0, .slice none 0 0, .int .i64 0, .int .i64 0] 47) = w2 := ⟨_, rfl⟩
  obtain ⟨w3, hw3⟩ : ∃ w3, w2.alloc (.cells #[.slice none 0 0, .int .i64 fuel, .slice Ao out.length co, .int .i64 done, .int .i64 value] 47) = w3 := ⟨_, rfl⟩
  have b1 : Below w.heap.size w w1 := hw1 ▸ below_alloc (Below.refl _ _) _
  have b2 : Below w1.heap.size w1 w2 := hw2 ▸ below_alloc (Below.refl _ _) _
  have b3 : Below w2.heap.size w2 w3 := hw3 ▸ below_alloc (Below.refl _ _) _
  have y1 : w1.heap.size = w.heap.size + 1 := by rw [← hw1]; simp
  have y2 : w2.heap.size = w.heap.size + 2 := by rw [← hw2]; simp [y1]
  have y3 : w3.heap.size = w.heap.size + 3 := by rw [← hw3]; simp [y2]
  have r1 : RowAt 47 w.heap.size [.slice A fs.length c, .int .i64 fuel, .slice Ao out.length co, .int .i64 done, .int .i64 value] w3 := ((hw1 ▸ RowAt.new _ _ w : RowAt 47 w.heap.size _ w1).below b2).below b3
  have r2 : RowAt 47 w1.heap.size [.slice none 0 0, .int .i64 0, .slice none 0 0, .int .i64 0, .int .i64 0] w3 := (hw2 ▸ RowAt.new _ _ w1 : RowAt 47 w1.heap.size _ w2).below b3
  have r3 : RowAt 47 w2.heap.size [.slice none 0 0, .int .i64 fuel, .slice Ao out.length co, .int .i64 done, .int .i64 value] w3 := hw3 ▸ RowAt.new _ _ w2
  have b03 := below_trans (below_trans b1 b2) b3
  obtain ⟨ao, cap, w4, hrun4, hc4, hb4⟩ := append_copy (c := co) (ho.below b03) z2
  have e1 := (hw1 ▸ RowAt.new _ _ w : RowAt 47 w.heap.size [.slice A fs.length c, .int .i64 fuel, .slice Ao out.length co, .int .i64 done, .int .i64 value] w1).below b2
  have q0 := e1.cell (k := 0) (by simp)
  have q1 := e1.cell (k := 1) (by simp)
  have q2 := e1.cell (k := 2) (by simp)
  have q3 := e1.cell (k := 3) (by simp)
  have q4 := e1.cell (k := 4) (by simp)
  have s1 := r1.below hb4
  have s2 := r2.below hb4
  have s3 := r3.below hb4
  have f2 := s3.free 2
  have g2 := s3.cell (k := 2) (by simp)
  have l2 := r1.cell (k := 2) (by simp)
  simp only [List.getElem_cons_succ, List.getElem_cons_zero] at q0 q1 q2 q3 q4 g2 l2
  have l2 := cell_below (below_alloc (Below.refl _ _) (.cells #[] 3)) l2
  have hnf := hf.1
  have hno := ho.1
  have Y1 := Lib.hid y1
  have Y2 := Lib.hid y2
  have Y3 := Lib.hid y3
  have HF := Lib.hid hf
  have Z1 := Lib.hid z1
  have Z3 := Lib.hid z3
  have B03 := Lib.hid b03
  have HB4 := Lib.hid hb4
  have HC4 := Lib.hid hc4
  have p3 := s3.put 2 (.slice ao out.length cap)
  simp only [List.set_cons_zero, List.set_cons_succ] at p3
  have kp : Keeps w2.heap.size w4 (w4.setCell ⟨w2.heap.size, 2, none⟩ (.slice ao out.length cap)) := Keeps.put (Keeps.refl _ w4) 2 _
  have S1 := Lib.hid (s1.keeps kp (by omega))
  have S2 := Lib.hid (s2.keeps kp (by omega))
  have S3 := Lib.hid p3
  have hch : Chg (fun b => b = w2.heap.size) w4 (w4.setCell ⟨w2.heap.size, 2, none⟩ (.slice ao out.length cap)) := Chg.put (S := fun b => b = w2.heap.size) (Chg.refl _ w4) (a := ⟨w2.heap.size, 2, none⟩) rfl _
  have HC5 := Lib.hid (hc4.chg hch (fun b hb e => by have := hc4.in_ b hb; omega))
  have B5 := Lib.hid (Below.setCell (below_trans b03 hb4) (p := ⟨w2.heap.size, 2, none⟩) (by simp; omega) (.slice ao out.length cap))
  clear kp y1 y2 y3 hf ho z1 z2 z3 b1 b2 b3 b03 hb4 hc4 e1 r1 r2 r3 s1 s2 s3 p3 hch
  go_enter Tryz.func25, Tryz.ntmps25
  go_wp2_with (at_builtin; refine wpList_append_run _ rfl _ _ _ _ rfl _ _ _ _ rfl rfl hrun4 ?_)
  have HOW := Lib.hid (show OwnS (w4.setCell ⟨w2.heap.size, 2, none⟩ (.slice ao out.length cap)) w3.heap.size ⟨fs.take 0, fuel, out, done, value⟩ (.slice none 0 0) (.slice ao out.length cap) [] from ⟨OwnG.nil _ _ _, HC5.out, fun u hu b hb e => by
    have e1 : u = .slice none 0 0 := by simpa using hu
    subst e1; cases hb⟩)
  have HSZ5 := Lib.hid (show w3.heap.size ≤ (w4.setCell ⟨w2.heap.size, 2, none⟩ (.slice ao out.length cap)).heap.size by have := HB4.out.size; simpa using this)
  clear q0 q1 q2 q3 q4 f2 g2 l2 hrun4 hw1 hw2 hw3
  go_loopw [4] (fun i wr => ∃ (k : Nat) (v : Value) (vss : List (List Value)), i = .int .i64 k ∧ k ≤ fs.length ∧ OwnS wr w3.heap.size ⟨fs.take k, fuel, out, done, value⟩ v (.slice ao out.length cap) vss ∧ RowAt 47 w.heap.size [.slice A fs.length c, .int .i64 fuel, .slice Ao out.length co, .int .i64 done, .int .i64 value] wr ∧
      RowAt 47 w1.heap.size [.slice none 0 0, .int .i64 0, .slice none 0 0, .int .i64 0, .int .i64 0] wr ∧ RowAt 47 w2.heap.size [v, .int .i64 fuel, .slice ao out.length cap, .int .i64 done, .int .i64 value] wr ∧ Below w.heap.size w wr ∧ w3.heap.size ≤ wr.heap.size) (fun i _ => fs.length - (intOf i).toNat)
  case atStart => exact ⟨0, _, _, rfl, Nat.zero_le _, HOW.out, S1.out, S2.out, S3.out, B5.out, HSZ5.out⟩
  case round =>
    obtain ⟨k, v, vss, rfl, hk, how, h0, h1, h2, hb, hsz⟩ := hrel
    clear HOW HSZ5 S1 S2 S3 HC5 B5 HB4 HC4
    have c0 := h0.cell (k := 0) (by simp)
    simp only [List.getElem_cons_zero] at c0
    have HOW := Lib.hid how
    have H0 := Lib.hid h0
    have H1 := Lib.hid h1
    have H2 := Lib.hid h2
    have HB := Lib.hid hb
    have HSZ := Lib.hid hsz
    by_cases hlt : k < fs.length
    · obtain ⟨ad, eA, d0, d1, ⟨L1, cl, d2, rl⟩, L2, cs, d3, rs⟩ := (HF.out.at_ hb hlt)
      subst eA
      obtain ⟨zl, zs⟩ := Z3.out _ (List.getElem_mem hlt)
      obtain ⟨f, ef⟩ : ∃ f, fs[k] = f := ⟨_, rfl⟩
      rw [ef] at d0 d1 d2 d3 rl rs zl zs
      have EF := Lib.hid ef
      obtain ⟨wA, hwA⟩ : ∃ wA, wr.alloc (.cells #[.int .i64 f.fn, .int .i64 f.pc, .slice L1 f.locals.length cl, .slice L2 f.stack.length cs] 68) = wA := ⟨_, rfl⟩
      have bA : Below wr.heap.size wr wA := hwA ▸ below_alloc (Below.refl _ _) _
      have yA : wA.heap.size = wr.heap.size + 1 := by rw [← hwA]; simp
      have rA : RowAt 68 wr.heap.size [.int .i64 f.fn, .int .i64 f.pc, .slice L1 f.locals.length cl, .slice L2 f.stack.length cs] wA := hwA ▸ RowAt.new _ _ wr
      obtain ⟨al, lc, wC, hrunC, hcC, hbC⟩ := append_copy (c := cl) (rl.below bA) zl
      obtain ⟨wD, hwD⟩ : ∃ wD, wC.setCell ⟨wr.heap.size, 2, none⟩ (.slice al f.locals.length lc) = wD := ⟨_, rfl⟩
      have rC := rA.below hbC
      have rD : RowAt 68 wr.heap.size [.int .i64 f.fn, .int .i64 f.pc, .slice al f.locals.length lc, .slice L2 f.stack.length cs] wD := hwD ▸ rC.put 2 (.slice al f.locals.length lc)
      have bD : Below wr.heap.size wr wD := hwD ▸ (below_trans bA hbC).setCell (p := ⟨wr.heap.size, 2, none⟩) (Nat.le_refl _) _
      have yD : wC.heap.size = wD.heap.size := by rw [← hwD]; simp
      have kD : Chg (fun b => b = wr.heap.size) wC wD := hwD ▸ Chg.put (S := fun b => b = wr.heap.size) (Chg.refl _ wC) (a := ⟨wr.heap.size, 2, none⟩) rfl _
      obtain ⟨asl, sc, wE, hrunE, hcE, hbE⟩ := append_copy (c := cs) (rs.below bD) zs
      obtain ⟨wF, hwF⟩ : ∃ wF, wE.setCell ⟨wr.heap.size, 3, none⟩ (.slice asl f.stack.length sc) = wF := ⟨_, rfl⟩
      have rE := rD.below hbE
      have rF : RowAt 68 wr.heap.size [.int .i64 f.fn, .int .i64 f.pc, .slice al f.locals.length lc, .slice asl f.stack.length sc] wF := hwF ▸ rE.put 3 (.slice asl f.stack.length sc)
      have bF : Below wr.heap.size wr wF := hwF ▸ (below_trans bD hbE).setCell (p := ⟨wr.heap.size, 3, none⟩) (Nat.le_refl _) _
      have yF : wE.heap.size = wF.heap.size := by rw [← hwF]; simp
      have kF : Chg (fun b => b = wr.heap.size) wE wF := hwF ▸ Chg.put (S := fun b => b = wr.heap.size) (Chg.refl _ wE) (a := ⟨wr.heap.size, 3, none⟩) rfl _
      obtain ⟨wG, hwG⟩ : ∃ wG, wF.alloc (.cells #[.int .i64 f.fn, .int .i64 f.pc, .slice al f.locals.length lc, .slice asl f.stack.length sc] 68) = wG := ⟨_, rfl⟩
      have bFG : Below wF.heap.size wF wG := hwG ▸ below_alloc (Below.refl _ _) _
      have bG := below_trans bF bFG
      have rG : RowAt 68 wF.heap.size [.int .i64 f.fn, .int .i64 f.pc, .slice al f.locals.length lc, .slice asl f.stack.length sc] wG := hwG ▸ RowAt.new _ _ wF
      have kCG : Chg (fun b => b = wr.heap.size) wC wG := (((kD.after hbE).trans kF (fun _ _ h => h)).after bFG)
      have kEG : Chg (fun b => b = wr.heap.size) wE wG := kF.after bFG
      have cl' := (hcC.chg kCG (fun b hb e => by have := (hcC.in_ b hb).1; omega)).mono (show w3.heap.size ≤ _ by omega)
      have cs' := (hcE.chg kEG (fun b hb e => by have := (hcE.in_ b hb).1; have := hbC.size; omega)).mono (show w3.heap.size ≤ _ by have := hbC.size; omega)
      have lol := fun b hb => (hcC.in_ b hb)
      have los := fun b hb => (hcE.in_ b hb)
      have hsrc : Src Tryz.prog 4 45 (.slice (some ⟨wF.heap.size, 0, none⟩) 1 1) 1 [.int .i64 f.fn, .int .i64 f.pc, .slice al f.locals.length lc, .slice asl f.stack.length sc] wG :=
        Src.ofSlice _ Tryz.underlying45 _ 1 1 _ rfl (fun j u hu => by
          obtain ⟨hj, rfl⟩ := List.getElem?_eq_some_iff.1 hu
          rw [add_plain]
          exact rG.cell (k := j) hj) (fun u hu => by
          simp at hu
          rcases hu with rfl | rfl | rfl | rfl <;> rfl)
      have howG := how.below bG
      have l2 := h0.below bA
      have d2' := rA.cell (k := 2) (by simp)
      have fC := rC.free 2
      have gC := rC.cell (k := 2) (by simp)
      have gD := rD.cell (k := 3) (by simp)
      have fE := rE.free 3
      have gE := rE.cell (k := 3) (by simp)
      have gF0 := rF.cell (k := 0) (by simp)
      have gF1 := rF.cell (k := 1) (by simp)
      have gF2 := rF.cell (k := 2) (by simp)
      have gF3 := rF.cell (k := 3) (by simp)
      have gF := (h2.below bF).cell (k := 0) (by simp)
      have dA2 := cell_below (below_alloc (Below.refl _ _) (.cells #[] 3)) d2'
      have dD3 := cell_below (below_alloc (Below.refl _ _) (.cells #[] 3)) gD
      simp only [List.getElem_cons_zero, List.getElem_cons_succ] at d2' gC gD gE gF0 gF1 gF2 gF3 gF dA2 dD3
      have HRUNE := Lib.hid hrunE
      have HSRC := Lib.hid hsrc
      have HOWG := Lib.hid howG
      have HCL := Lib.hid cl'
      have HCS := Lib.hid cs'
      have LOL := Lib.hid lol
      have LOS := Lib.hid los
      have BG := Lib.hid bG
      have YY := Lib.hid (And.intro yA (And.intro yD (And.intro yF (And.intro hbC.size hbE.size))))
      have H0G := Lib.hid (h0.below bG)
      have H1G := Lib.hid (h1.below bG)
      have H2G := Lib.hid (h2.below bG)
      have LT := Lib.hid (And.intro (blk_lt h0) (And.intro (blk_lt h1) (blk_lt h2)))
      clear how h0 h1 h2 hb hsz rl rs zl zs ef bA yA rA hcC hbC rC rD bD yD kD hcE hbE rE rF bF yF kF bFG bG rG kCG kEG cl' cs' lol los hsrc howG l2 hrunE
      go_upto_region 9 with (at_builtin; refine wpList_append_run _ rfl _ _ _ _ rfl _ _ _ _ rfl rfl hrunC ?_)
      have hrunE := HRUNE.out
      go_upto_region 10 with (at_builtin; refine wpList_append_run _ rfl _ _ _ _ rfl _ _ _ _ rfl rfl hrunE ?_)
      obtain ⟨i0, hi0, hz0, hs0, hb0⟩ := info_parts info_frame
      have HI0 := Lib.hid hi0
      have HZ0 := Lib.hid hz0
      have HS0 := Lib.hid hs0
      have HBY := Lib.hid hb0
      have hkl : (fs.take k).length = k := by simp; omega
      have hrow := HOWG.out.fr.row
      simp only [hkl] at hrow
      have HROW := Lib.hid hrow
      have HKL := Lib.hid hkl
      have HVLO := Lib.hid (show ∀ b, ob v = some b → w3.heap.size ≤ b ∧ b < wG.heap.size from fun b hb => HOWG.out.fr.lo v (by simp) b hb)
      have zf := Z1.out
      clear hi0 hz0 hs0 hb0 hkl hrow hrunC hrunE
      go_wp2_with (at_builtin; refine wpList_append_crow _ rfl _ _ 45 45 68 rfl i0 _ 4 64 Tryz.underlying45 HI0.out HZ0.out HS0.out HBY.out rfl w3.heap.size v k _ rfl HROW.out ?c1 _ 1 _ rfl HSRC.out ?c2 ?c3 ?_; rotate_left 3; intro v' wH hG; obtain ⟨ao', cap', hv', hle', hmx'⟩ := hG.row.shape; subst hv'; have t2 := H2G.out.chg hG.chg (fun e => by have := (HVLO.out _ e).1; have := Y2.out; have := Y3.out; omega); have T1 := t2.cell (k := 0) (by simp); have T2 := t2.free 0; simp only [List.getElem_cons_zero] at T1; have HG := Lib.hid hG; have HT2 := Lib.hid t2; clear hG t2)
      case c1 => have := HSZ.out; have := BG.out.size; omega
      case c2 => omega
      case c3 => unfold maxLen; omega
      have hG := HG.out
      have yv := YY.out
      have lt := LT.out
      have e3 : fs.take (k + 1) = fs.take k ++ [f] := by rw [List.take_succ_eq_append_getElem hlt, EF.out]
      have kI : Chg (fun b => b = w2.heap.size) wH (wH.setCell ⟨w2.heap.size, 0, none⟩ (.slice ao' (k + 1) cap')) := Chg.put (S := fun b => b = w2.heap.size) (Chg.refl _ wH) (a := ⟨w2.heap.size, 0, none⟩) rfl _
      have hbv : ∀ b, ob v = some b → b < wr.heap.size := fun b hb => by
        have := (HOW.out.fr.lo v (by simp) b hb).2; exact this
      have hbu : ∀ u ∈ v :: vss.flatten, ∀ b, ob u = some b → b < wr.heap.size := fun u hu b hb => (HOW.out.fr.lo u hu b hb).2
      have hbo : ∀ b, ob (.slice ao out.length cap) = some b → b < wr.heap.size := fun b hb => (HOW.out.out.in_ b hb).2
      have grow : OwnFr wH w3.heap.size (.slice ao' (k + 1) cap') (fs.take k ++ [f]) (vss ++ [[.slice al f.locals.length lc, .slice asl f.stack.length sc]]) := by
        refine OwnG.grow (x := f) HOWG.out.fr (by rw [HKL.out]; exact hG) rfl (fun j hj hj' => ?_) (fun j hj b hb hb2 => ?_) (fun j hj j' hj' hne b hb hb2 => ?_) (fun j hj b hb q hq p hp hb2 => ?_)
        · match j, hj with
          | 0, _ => exact HCL.out
          | 1, _ => exact HCS.out
        · have := hbv b hb2
          match j, hj with
          | 0, _ => have := LOL.out b hb; omega
          | 1, _ => have := LOS.out b hb; omega
        · match j, hj, j', hj' with
          | 0, _, 0, _ => exact absurd rfl hne
          | 0, _, 1, _ => have := LOL.out b hb; have := LOS.out b hb2; omega
          | 1, _, 0, _ => have := LOS.out b hb; have := LOL.out b hb2; omega
          | 1, _, 1, _ => exact absurd rfl hne
        · have := hbu _ (List.mem_cons_of_mem _ (List.mem_flatten.2 ⟨_, List.getElem_mem hq, List.getElem_mem hp⟩)) b hb2
          match j, hj with
          | 0, _ => have := LOL.out b hb; omega
          | 1, _ => have := LOS.out b hb; omega
      have lo2 : ∀ u ∈ (Value.slice ao' (k + 1) cap') :: (vss ++ [[Value.slice al f.locals.length lc, Value.slice asl f.stack.length sc]]).flatten, ∀ b, ob u = some b → ¬ b = w2.heap.size := fun u hu b hb e => by
        have := (grow.lo u hu b hb).1
        have := Y2.out; have := Y3.out; omega
      have F1 : OwnS (wH.setCell ⟨w2.heap.size, 0, none⟩ (.slice ao' (k + 1) cap')) w3.heap.size ⟨fs.take (k + 1), fuel, out, done, value⟩ (.slice ao' (k + 1) cap') (.slice ao out.length cap) (vss ++ [[Value.slice al f.locals.length lc, Value.slice asl f.stack.length sc]]) := by
        refine ⟨by rw [e3]; exact grow.chg kI lo2, ((HOWG.out.out.chg hG.chg (fun b hb e => HOWG.out.sep v (by simp) b e hb)).chg kI (fun b hb e => by have := (HOWG.out.out.in_ b hb).1; have := Y2.out; have := Y3.out; omega)), fun u hu b hb hb2 => ?_⟩
        rcases List.mem_cons.1 hu with rfl | hu
        · rcases hG.at_ b hb with h | h
          · exact HOWG.out.sep v (by simp) b h hb2
          · have := hbo b hb2; have := BG.out.size; omega
        · rw [List.flatten_append] at hu
          rcases List.mem_append.1 hu with hu | hu
          · exact HOWG.out.sep u (by simp [hu]) b hb hb2
          · have := hbo b hb2
            simp at hu
            rcases hu with rfl | rfl
            · have := LOL.out b hb; omega
            · have := LOS.out b hb; omega
      have F2 := (H0G.out.chg hG.chg (fun e => by have := (HVLO.out _ e).1; have := Y2.out; have := Y3.out; omega)).chg kI (by have := Y2.out; omega)
      have F3 := (H1G.out.chg hG.chg (fun e => by have := (HVLO.out _ e).1; have := Y1.out; have := Y2.out; have := Y3.out; omega)).chg kI (by have := Y1.out; have := Y2.out; omega)
      have F4 := HT2.out.put 0 (.slice ao' (k + 1) cap')
      simp only [List.set_cons_zero] at F4
      have F5 := Below.setCell ((hG.chg.below (below_trans HB.out BG.out) (fun b hb => by have := (HVLO.out b hb).1; have := Y3.out; omega))) (p := ⟨w2.heap.size, 0, none⟩) (by have := Y2.out; simp; omega) (.slice ao' (k + 1) cap')
      have F6 : w3.heap.size ≤ (wH.setCell ⟨w2.heap.size, 0, none⟩ (.slice ao' (k + 1) cap')).heap.size := by have h1 := hG.kept.size; have := BG.out.size; have := HSZ.out; simp; omega
      have HF := Lib.hid (And.intro F1 (And.intro F2 (And.intro F3 (And.intro F4 (And.intro F5 F6)))))
      clear F1 F2 F3 F4 F5 F6 hG grow kI hbv hbu hbo lo2 T1 T2 yv lt e3
      go_wp2_with fail
      go_roundw
      case rel => exact ⟨k + 1, _, _, by go_num, by omega, HF.out.1, HF.out.2.1, HF.out.2.2.1, HF.out.2.2.2.1, HF.out.2.2.2.2.1, HF.out.2.2.2.2.2⟩
      case measure => simp only [intOf]; omega
    · have hke : fs.take k = fs := List.take_of_length_le (by omega)
      rw [hke] at HOW
      obtain ⟨A', c', A2', c2', rfl, e2, _, _⟩ := HOW.out.reads
      simp only at H2 HOW
      have p0 := h2.cell (k := 0) (by simp)
      have p1 := h2.cell (k := 1) (by simp)
      have p2 := h2.cell (k := 2) (by simp)
      have p3 := h2.cell (k := 3) (by simp)
      have p4 := h2.cell (k := 4) (by simp)
      have f0 := h1.free 0
      have f1 := h1.free 1
      have f2 := h1.free 2
      have f3 := h1.free 3
      have f4 := h1.free 4
      have g0 := h1.cell (k := 0) (by simp)
      have g1 := h1.cell (k := 1) (by simp)
      have g2 := h1.cell (k := 2) (by simp)
      have g3 := h1.cell (k := 3) (by simp)
      have g4 := h1.cell (k := 4) (by simp)
      simp only [List.getElem_cons_zero, List.getElem_cons_succ] at p0 p1 p2 p3 p4 g0 g1 g2 g3 g4
      have pz := put5 h1 rfl (.slice A' fs.length c') (.int .i64 fuel) (.slice ao out.length cap) (.int .i64 done) (.int .i64 value)
      have yy := Y1.out
      have yz := Y3.out
      have EE := Lib.hid pz.1
      have KB := Lib.hid (below_keep hb pz.2 (by omega))
      have OO := Lib.hid ((show OwnS (((((wr.setCell ⟨w1.heap.size, 0, none⟩ (.slice A' fs.length c')).setCell ⟨w1.heap.size, 1, none⟩ (.int .i64 fuel)).setCell ⟨w1.heap.size, 2, none⟩ (.slice ao out.length cap)).setCell ⟨w1.heap.size, 3, none⟩ (.int .i64 done)).setCell ⟨w1.heap.size, 4, none⟩ (.int .i64 value)) w3.heap.size ⟨fs, fuel, out, done, value⟩ (.slice A' fs.length c') (.slice ao out.length cap) vss from
        ⟨HOW.out.fr.chg (Chg.of_keeps pz.2) (fun u hu b hb e => by have := (HOW.out.fr.lo u hu b hb).1; omega), HOW.out.out.chg (Chg.of_keeps pz.2) (fun b hb e => by have := (HOW.out.out.in_ b hb).1; omega), HOW.out.sep⟩).mono (base' := w.heap.size) (by omega))
      clear pz yy yz h0 h1 h2 hb how hsz
      go_wp2_with fail
      exact bodyPost_ret (v := .agg #[.slice A' fs.length c', .int .i64 fuel, .slice ao out.length cap, .int .i64 done, .int .i64 value]) (by simp [results, Tryz.results25, go_sem, EE.out.1, EE.out.2.1, EE.out.2.2.1, EE.out.2.2.2.1, EE.out.2.2.2.2]) rfl
        ⟨_, _, _, rfl, OO.out, KB.out⟩
end Go.Proofs.YtpfgklkdldkajaaGreatDoor
