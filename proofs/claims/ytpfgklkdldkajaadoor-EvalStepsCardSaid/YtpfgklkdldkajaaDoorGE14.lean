/- 'frame.Start': the state that a program begins with. Conditions: the program, the args lie in memory; errors.errorType is laid. 'SameFrames', 'SameState' of the statements. Conditions: the frames, the states lie in memory as they are said. 'CopyState' of the statements: another state that is the same, of the call's own. Conditions: the state lies in memory; no list is longer than the reach. -/
import Derived.Test.YtpfgklkdldkajaaDoorGE13
namespace Go.Proofs.YtpfgklkdldkajaaDoor
open Go.RowKit

def argsAt0 (p : List Fn) : Int := match p[0]? with | some g => g.args | none => 0
def startB (p : List Fn) (args : List Int) (fuel : Int) : Bool := decide (verifyOf p = 0) && decide ((args.length : Int) = argsAt0 p) && args.all isNum && decide (0 ≤ fuel) && decide (fuel ≤ 100000)
def zeroS : Stt := ⟨[], 0, [], 0, 0⟩
def startS (p : List Fn) (args : List Int) (fuel : Int) : Stt := if startB p args fuel = true then ⟨[⟨0, 0, beginL args (localsAt p 0).toNat, []⟩], fuel, [], 0, 0⟩ else zeroS
def startC (p : List Fn) (args : List Int) (fuel : Int) : Int := if startB p args fuel = true then 0 else 600
/-- A call that answers a state of its own, and an int. -/
def StateE (s : Stt) (code : Int) (w : World) (e : Ending) (w' : World) : Prop :=
  ∃ fv ov vss, e = .returned (.tuple #[sttV s fv ov, .int .i64 code]) ∧ OwnS w' w.heap.size s fv ov vss ∧ Below w.heap.size w w'
theorem OwnS.zero (w : World) (base : Nat) (f d v : Int) : OwnS w base ⟨[], f, [], d, v⟩ (.slice none 0 0) (.slice none 0 0) [] :=
  ⟨OwnG.nil _ _ _, CRow.nil _ _ _ _, fun _ _ _ _ e => by cases e⟩
theorem crow_of {w : World} {base b t sz n : Nat} {cs : List Value} (h : RowAt t b cs w) (hb : base ≤ b) (hl : cs.length = n * sz) (hm : n ≤ maxLen) : CRow w base t sz (.slice (some ⟨b, 0, none⟩) n n) n cs := .inl (ORow.of_row h hb hl hm)
/-- One frame, newly laid. -/
theorem own_one {w : World} {base g g2 L : Nat} {f : Frm} (h : RowAt 3 g (intsV f.locals) w) (hb : base ≤ g) (hL : f.locals.length = L) (h8 : L ≤ 100) (hs : f.stack = [])
    (h2 : RowAt 149 g2 [.int .i64 f.fn, .int .i64 f.pc, .slice (some ⟨g, 0, none⟩) L L, .slice none 0 0] w) (hb2 : base ≤ g2) (hne : g ≠ g2) :
    OwnFr w base (.slice (some ⟨g2, 0, none⟩) 1 1) [f] [[.slice (some ⟨g, 0, none⟩) L L, .slice none 0 0]] := by
  obtain ⟨fn, pc, ls, ss⟩ := f
  simp only at hs hL h h2
  subst hs hL
  have ob1 : ∀ {x : Nat} {b : Nat}, ob (.slice (some ⟨x, 0, none⟩) ls.length ls.length) = some b → b = x := fun {x b} h => by
    have := ob_own h
    cases this; rfl
  refine ⟨rfl, crow_of (t := KFr.t) (sz := KFr.sz) h2 hb2 rfl (by decide), fun k hk hk' => ?_, ?_, ?_⟩
  · obtain rfl : k = 0 := by simpa using hk
    refine ⟨rfl, fun j hj hj' => ?_⟩
    match j, hj with
    | 0, _ => exact crow_of (sz := 1) h hb (show (intsV ls).length = ls.length * 1 by rw [intsV_len, Nat.mul_one]) (by unfold maxLen; omega)
    | 1, _ => exact CRow.nil _ _ _ _
  · intro k hk j hj b hb
    obtain rfl : k = 0 := by simpa using hk
    have e := ob_own hb
    cases e
    match j, hj with
    | 0, _ => exact fun h => hne (ob1 h).symm
    | 1, _ => exact fun h => by cases h
  · intro k hk j hj k' hk' j' hj' hne b hb
    obtain rfl : k = 0 := by simpa using hk
    obtain rfl : k' = 0 := by simpa using hk'
    match j, hj, j', hj' with
    | 0, _, 0, _ => exact absurd rfl (hne.resolve_left (by simp))
    | 0, _, 1, _ => exact fun h => by cases h
    | 1, _, _, _ => exact absurd hb (fun h => by cases h)
/-- Five cells, written one behind the other. -/
theorem put5 {t b : Nat} {cs : List Value} {w : World} (h : RowAt t b cs w) (hl : cs.length = 5) (v0 v1 v2 v3 v4 : Value) :
    ((w.setCell ⟨b, 0, none⟩ v0).cell? ⟨b, 0, none⟩ = some v0 ∧ ((w.setCell ⟨b, 0, none⟩ v0).setCell ⟨b, 1, none⟩ v1).cell? ⟨b, 1, none⟩ = some v1 ∧ (((w.setCell ⟨b, 0, none⟩ v0).setCell ⟨b, 1, none⟩ v1).setCell ⟨b, 2, none⟩ v2).cell? ⟨b, 2, none⟩ = some v2 ∧
      ((((w.setCell ⟨b, 0, none⟩ v0).setCell ⟨b, 1, none⟩ v1).setCell ⟨b, 2, none⟩ v2).setCell ⟨b, 3, none⟩ v3).cell? ⟨b, 3, none⟩ = some v3 ∧ (((((w.setCell ⟨b, 0, none⟩ v0).setCell ⟨b, 1, none⟩ v1).setCell ⟨b, 2, none⟩ v2).setCell ⟨b, 3, none⟩ v3).setCell ⟨b, 4, none⟩ v4).cell? ⟨b, 4, none⟩ = some v4) ∧
      Keeps b w (((((w.setCell ⟨b, 0, none⟩ v0).setCell ⟨b, 1, none⟩ v1).setCell ⟨b, 2, none⟩ v2).setCell ⟨b, 3, none⟩ v3).setCell ⟨b, 4, none⟩ v4) := by
  match cs, hl with
  | [c0, c1, c2, c3, c4], _ =>
    have s0 := h.put 0 v0
    have s1 := s0.put 1 v1
    have s2 := s1.put 2 v2
    have s3 := s2.put 3 v3
    have s4 := s3.put 4 v4
    exact ⟨⟨s0.cell (k := 0) (by simp), s1.cell (k := 1) (by simp), s2.cell (k := 2) (by simp), s3.cell (k := 3) (by simp), s4.cell (k := 4) (by simp)⟩, ((((Keeps.refl b w).put 0 v0).put 1 v1).put 2 v2).put 3 v3 |>.put 4 v4⟩
theorem startB_no {p : List Fn} {args : List Int} {fuel : Int} (h : startB p args fuel = false) : startS p args fuel = zeroS ∧ startC p args fuel = 600 := by
  unfold startS startC; rw [h]; exact ⟨rfl, rfl⟩
set_option maxRecDepth 100000 in
set_option maxHeartbeats 4000000 in
theorem start_any (p : List Fn) (Ap A : Option Addr) (cp c : Nat) (args : List Int) (fuel : Int) (w : World) (hl : Laid w) (hr : ReadsF w Ap p) (ha : ReadsI w A args) :
    Calls Tryd.prog 55 #[.agg #[.slice Ap p.length cp], .slice A args.length c, .int .i64 fuel] w (StateE (startS p args fuel) (startC p args fuel) w) := by
  obtain ⟨w1, hw1⟩ : ∃ w1, w.alloc (.cells #[.slice Ap p.length cp] 24) = w1 := ⟨_, rfl⟩
  obtain ⟨w2, hw2⟩ : ∃ w2, w1.alloc (.cells #[.slice none 0 0, .int .i64 0, .slice none 0 0, .int .i64 0, .int .i64 0] 74) = w2 := ⟨_, rfl⟩
  have b1 : Below w.heap.size w w1 := hw1 ▸ below_alloc (Below.refl _ _) _
  have b2 : Below w1.heap.size w1 w2 := hw2 ▸ below_alloc (Below.refl _ _) _
  have z1 : w1.heap.size = w.heap.size + 1 := by rw [← hw1]; simp
  have r1 : RowAt 24 w.heap.size [.slice Ap p.length cp] w2 := (hw1 ▸ RowAt.new _ _ w : RowAt 24 w.heap.size [.slice Ap p.length cp] w1).below b2
  have r2 : RowAt 74 w1.heap.size [.slice none 0 0, .int .i64 0, .slice none 0 0, .int .i64 0, .int .i64 0] w2 := hw2 ▸ RowAt.new _ _ w1
  have B2 := Lib.hid (below_trans b1 b2)
  have R1 := Lib.hid r1
  have R2 := Lib.hid r2
  have Z1 := Lib.hid z1
  have HRF := Lib.hid (hr.below B2.out)
  have HAR := Lib.hid (ha.below B2.out)
  have hna := ha.1
  have HP := Lib.hid (program_any p Ap cp w2 (hl.below B2.out) HRF.out)
  obtain ⟨vf, hvf⟩ : ∃ vf, verifyOf p = vf := ⟨_, rfl⟩
  have HVF := Lib.hid hvf
  rw [hvf] at HP
  have q1 := row_cell r1
  clear hvf b1 b2 r1 r2 hl hr ha z1
  by_cases hv : vf = 0
  · have dv : (vf != 0) = false := by simpa using hv
    have HV := Lib.hid (HVF.out.trans hv)
    have hp1 := (packs_len (verifyOf_packs HV.out)).1
    obtain ⟨a0, a4, al, l8, _⟩ := fnMay_of (packs_fn (verifyOf_packs HV.out) (k := 0) hp1)
    obtain ⟨L, hL⟩ := Int.eq_ofNat_of_zero_le (show 0 ≤ p[0].locals by omega)
    have HL := Lib.hid hL
    have L8 : L ≤ 100 := by omega
    have hea : argsAt0 p = p[0].args := by unfold argsAt0; rw [List.getElem?_eq_getElem hp1]
    have hel : localsAt p 0 = L := by unfold localsAt; rw [show (0 : Int).toNat = 0 from rfl, List.getElem?_eq_getElem hp1]; exact hL
    have HE := Lib.hid (show startB p args fuel = (decide ((args.length : Int) = p[0].args) && args.all isNum && decide (0 ≤ fuel) && decide (fuel ≤ 100000)) by unfold startB; rw [HV.out, hea]; rfl)
    have HEL := Lib.hid hel
    have AL := Lib.hid al
    clear hv a0 a4 al l8 hL hea hel
    go_enter Tryd.func55, Tryd.ntmps55
    go_wp2_with fail
    refine HP.out.mono ?_
    rintro e w3 ⟨rfl, hB⟩
    have B3 := Lib.hid (below_trans B2.out hB)
    have B23 := Lib.hid hB
    have HRF3 := Lib.hid (HRF.out.below hB)
    have t1 := R1.out.below hB
    have t2 := R2.out.below hB
    have k1 := row_cell t1
    obtain ⟨ad, eA, Ac, cc, hF⟩ := fnAt_of HRF3.out (Below.refl _ _) hp1
    subst eA
    have k2 := hF.c0
    simp only [Nat.zero_mul, add_nil] at k2
    have f0 := t2.free 0
    have f1 := t2.free 1
    have f2 := t2.free 2
    have f3 := t2.free 3
    have f4 := t2.free 4
    have g0 := t2.cell (k := 0) (by simp)
    have g1 := t2.cell (k := 1) (by simp)
    have g2 := t2.cell (k := 2) (by simp)
    have g3 := t2.cell (k := 3) (by simp)
    have g4 := t2.cell (k := 4) (by simp)
    simp only [List.getElem_cons_succ, List.getElem_cons_zero] at g0 g1 g2 g3 g4
    have T2 := Lib.hid t2
    have HA := Lib.hid (wrapAll_any A c args w3 (HAR.out.below hB))
    have HB := Lib.hid (fun (hle : args.length ≤ L) => begin_any ⟨w.heap.size, 0, none⟩ p (some ad) A cp c 0 L args w3 k1 HRF3.out hp1 HL.out L8 (HAR.out.below hB) hle)
    obtain ⟨xa, exa⟩ : ∃ xa, args.all isNum = xa := ⟨_, rfl⟩
    rw [exa] at HA HE
    obtain ⟨pa, epa⟩ : ∃ pa, p[0].args = pa := ⟨_, rfl⟩
    rw [epa] at k2 HE AL
    clear hB t1 t2 hF q1 hw1 hw2 exa epa
    by_cases hgo : ((args.length : Int) = pa ∧ xa = true ∧ 0 ≤ fuel ∧ fuel ≤ 100000)
    · obtain ⟨h1, rfl, h2, h3⟩ := hgo
      have d1 : ((args.length : Int) != pa) = false := by simpa using h1
      have d2 : decide (fuel < 0) = false := by simpa using h2
      have d3 : decide (100000 < fuel) = false := by simpa using h3
      have HS := Lib.hid (show startB p args fuel = true by rw [HE.out, decide_eq_true h1, decide_eq_true h2, decide_eq_true h3]; rfl)
      have HLE := Lib.hid (show args.length ≤ L by have := AL.out; have := HL.out; omega)
      clear h1
      go_wp2_with (go_at_call 47; refine HA.out.mono ?_; rintro e w' ⟨rfl, rfl⟩)
      refine (HB.out HLE.out).mono ?_
      rintro e w4 ⟨g, rfl, hrg, hgl, hB4⟩
      obtain ⟨w5, hw5⟩ : ∃ w5, w4.alloc (.cells #[.int .i64 0, .int .i64 0, .slice (some ⟨g, 0, none⟩) L L, .slice none 0 0] 149) = w5 := ⟨_, rfl⟩
      have b5 : Below w4.heap.size w4 w5 := hw5 ▸ below_alloc (Below.refl _ _) _
      have r5 : RowAt 149 w4.heap.size [.int .i64 0, .int .i64 0, .slice (some ⟨g, 0, none⟩) L L, .slice none 0 0] w5 := hw5 ▸ RowAt.new _ _ w4
      have b35 := below_trans hB4 b5
      have t5 := T2.out.below b35
      have f0 := t5.free 0
      have f1 := t5.free 1
      have f2 := t5.free 2
      have f3 := t5.free 3
      have f4 := t5.free 4
      have g0 := t5.cell (k := 0) (by simp)
      have g1 := t5.cell (k := 1) (by simp)
      have g2 := t5.cell (k := 2) (by simp)
      have g3 := t5.cell (k := 3) (by simp)
      have g4 := t5.cell (k := 4) (by simp)
      simp only [List.getElem_cons_succ, List.getElem_cons_zero] at g0 g1 g2 g3 g4
      have pz := put5 t5 rfl (.slice (some ⟨w4.heap.size, 0, none⟩) 1 1) (.int .i64 fuel) (.slice none 0 0) (.int .i64 0) (.int .i64 0)
      have hzz := B3.out.size
      have hz2 := B23.out.size
      have hz3 := blk_lt T2.out
      have hz4 := hB4.size
      have hgs := blk_lt hrg
      have EE := Lib.hid pz.1
      have KB := Lib.hid (below_keep (below_trans B3.out b35) pz.2 (by have := Z1.out; omega))
      have OF := Lib.hid (own_one (base := w.heap.size) (f := ⟨0, 0, beginL args L, []⟩) ((hrg.below b5).keeps pz.2 (by omega)) (by omega) (beginL_len HLE.out) L8 rfl (r5.keeps pz.2 (by omega)) (by omega) (by omega))
      clear pz hzz hz2 hz3 hz4 hgs b5 r5 b35 t5 hrg hgl hB4
      go_wp2_with fail
      have hS : startS p args fuel = ⟨[⟨0, 0, beginL args L, []⟩], fuel, [], 0, 0⟩ := by unfold startS; rw [if_pos HS.out, HEL.out]; rfl
      have hC : startC p args fuel = 0 := by unfold startC; rw [if_pos HS.out]
      exact bodyPost_ret (v := .tuple #[.agg #[.slice (some ⟨w4.heap.size, 0, none⟩) 1 1, .int .i64 fuel, .slice none 0 0, .int .i64 0, .int .i64 0], .int .i64 0]) (by simp [results, Tryd.results55, go_sem, EE.out.1, EE.out.2.1, EE.out.2.2.1, EE.out.2.2.2.1, EE.out.2.2.2.2]) rfl
        ⟨_, .slice none 0 0, _, by rw [hS, hC]; rfl, by rw [hS]; exact ⟨OF.out, CRow.nil _ _ _ _, fun u hu b hb e => by cases e⟩, KB.out⟩
    · have HS := Lib.hid (show startB p args fuel = false by
        rw [HE.out]
        cases xa
        · simp
        · cases h : (decide ((args.length : Int) = pa) && true && decide (0 ≤ fuel) && decide (fuel ≤ 100000)) with
          | false => rfl
          | true =>
            simp only [Bool.and_eq_true, decide_eq_true_eq, and_true] at h
            exact absurd ⟨h.1.1, rfl, h.1.2, h.2⟩ hgo)
      clear hgo
      have pz := put5 T2.out rfl (.slice none 0 0) (.int .i64 0) (.slice none 0 0) (.int .i64 0) (.int .i64 0)
      have EE := Lib.hid pz.1
      have KB := Lib.hid (below_keep B3.out pz.2 (by have := Z1.out; omega))
      clear pz
      go_wp2_with (go_at_call 47; refine HA.out.mono ?_; rintro e w' ⟨rfl, rfl⟩)
      all_goals first
        | (refine bodyPost_ret (v := .tuple #[.agg #[.slice none 0 0, .int .i64 0, .slice none 0 0, .int .i64 0, .int .i64 0], .int .i64 600]) ?_ rfl ?_; (· simp [results, Tryd.results55, go_sem, EE.out.1, EE.out.2.1, EE.out.2.2.1, EE.out.2.2.2.1, EE.out.2.2.2.2]); exact ⟨.slice none 0 0, .slice none 0 0, [], by rw [(startB_no HS.out).1, (startB_no HS.out).2]; rfl, by rw [(startB_no HS.out).1]; exact OwnS.zero _ _ _ _ _, KB.out⟩)
        | (exfalso; have h := HE.out; rw [HS.out] at h; simp_all; done)
        | (exfalso; have h := HE.out; rw [HS.out] at h; simp_all; omega)
  · have dv : (vf != 0) = true := by simpa using hv
    have HS := Lib.hid (show startB p args fuel = false by unfold startB; rw [HVF.out, decide_eq_false hv]; rfl)
    clear hv
    go_enter Tryd.func55, Tryd.ntmps55
    go_wp2_with fail
    refine HP.out.mono ?_
    rintro e w3 ⟨rfl, hB⟩
    have t2 := R2.out.below hB
    have f0 := t2.free 0
    have f1 := t2.free 1
    have f2 := t2.free 2
    have f3 := t2.free 3
    have f4 := t2.free 4
    have g0 := t2.cell (k := 0) (by simp)
    have g1 := t2.cell (k := 1) (by simp)
    have g2 := t2.cell (k := 2) (by simp)
    have g3 := t2.cell (k := 3) (by simp)
    have g4 := t2.cell (k := 4) (by simp)
    simp only [List.getElem_cons_succ, List.getElem_cons_zero] at g0 g1 g2 g3 g4
    have B3 := Lib.hid (below_trans B2.out hB)
    have pz := put5 t2 rfl (.slice none 0 0) (.int .i64 0) (.slice none 0 0) (.int .i64 0) (.int .i64 0)
    have EE := Lib.hid pz.1
    have KB := Lib.hid (below_keep B3.out pz.2 (by have := Z1.out; omega))
    clear pz
    clear hB t2
    go_wp2_with fail
    exact bodyPost_ret (v := .tuple #[.agg #[.slice none 0 0, .int .i64 0, .slice none 0 0, .int .i64 0, .int .i64 0], .int .i64 600]) (by simp [results, Tryd.results55, go_sem, EE.out.1, EE.out.2.1, EE.out.2.2.1, EE.out.2.2.2.1, EE.out.2.2.2.2]) rfl
          ⟨.slice none 0 0, .slice none 0 0, [], by rw [(startB_no HS.out).1, (startB_no HS.out).2]; rfl, by rw [(startB_no HS.out).1]; exact OwnS.zero _ _ _ _ _, KB.out⟩
end Go.Proofs.YtpfgklkdldkajaaDoor

namespace Go.Proofs.YtpfgklkdldkajaaDoor
open Go.RowKit

theorem frm_ext {x y : Frm} (h1 : x.fn = y.fn) (h2 : x.pc = y.pc) (h3 : x.locals = y.locals) (h4 : x.stack = y.stack) : x = y := by cases x; cases y; simp only at h1 h2 h3 h4; rw [h1, h2, h3, h4]
theorem quiet_back {w w' : World} {n m : Nat} (h : w' = (w.drewN n).drewN m ∨ w' = w.drewN m) : ∃ k, w' = w.drewN k := by
  rcases h with h | h
  · exact ⟨n + m, by rw [h, drewN_two]⟩
  · exact ⟨m, h⟩
/-- A state, as it is read. -/
structure ReadsS (w : World) (s : Stt) (A Ao : Option Addr) : Prop where
  fr : ReadsFr w A s.frames
  out : ReadsI w Ao s.out
theorem ReadsS.below {w w1 : World} {s : Stt} {A Ao : Option Addr} (h : ReadsS w s A Ao) (hb : Below w.heap.size w w1) : ReadsS w1 s A Ao := ⟨h.fr.below hb, h.out.below hb⟩
theorem OwnS.reads {w : World} {base : Nat} {s : Stt} {fv ov : Value} {vss : List (List Value)} (h : OwnS w base s fv ov vss) : ∃ A c Ao co, fv = .slice A s.frames.length c ∧ ov = .slice Ao s.out.length co ∧ s.frames.length ≤ c ∧ ReadsS w s A Ao := by
  obtain ⟨A, c, rfl, h1, _⟩ := h.fr.row.shape
  obtain ⟨Ao, co, rfl, _, _⟩ := h.out.shape
  exact ⟨A, c, Ao, co, rfl, rfl, h1, h.fr.reads.2, h.out.ints⟩
end Go.Proofs.YtpfgklkdldkajaaDoor

namespace Go.Proofs.YtpfgklkdldkajaaDoor
open Go.RowKit

theorem append_copy {W : World} {A : Option Addr} {c : Nat} {xs : List Int} (hr : ReadsI W A xs) (hz : xs.length * 8 ≤ 140737488351232) :
    ∃ ao cap W', (Builtin.append_ #[32, 32] 32 #[.slice (some ⟨W.heap.size, 0, none⟩) 0 0, .slice A xs.length c]).run Tryd.prog (W.alloc (.cells #[] 3)) = .ok (.slice ao xs.length cap) W' ∧ CRow W' W.heap.size 3 1 (.slice ao xs.length cap) xs.length (intsV xs) ∧ Below W.heap.size W W' := by
  obtain ⟨i, hi, hz0, hs, hb⟩ := info_parts info_int
  have b1 : Below W.heap.size W (W.alloc (.cells #[] 3)) := below_alloc (Below.refl _ _) _
  obtain ⟨v', W', hrun, hG⟩ := run_append_crow (P := Tryd.prog) (W.alloc (.cells #[] 3)) 32 3 32 32 i (.int .i64 0) 1 8 Tryd.underlying32 hi hz0 hs hb rfl W.heap.size (some ⟨W.heap.size, 0, none⟩) 0 0 [] (.inr ⟨rfl, rfl, _, rfl⟩) (by simp)
    (.slice A xs.length c) xs.length (intsV xs) (ints_src Tryd.underlying32 (hr.below b1) (reads_none hr)) (by omega) (by unfold maxLen; omega)
  have hrow := hG.row
  rw [Nat.zero_add, List.nil_append] at hrow
  obtain ⟨ao, cap, rfl, _, _⟩ := hrow.shape
  exact ⟨ao, cap, W', hrun, hrow, (Chg.below b1 hG.chg (fun b hb => by cases hb))⟩
/-- 'append' by its run. -/
theorem wpList_append_run {P : Program} {ops : Array Oper} {rest : List Oper} {o : Oper} {a : Act} {Q : Exit → Act → World → Prop} (w : World) (hg : o.guard = none) (s x : Operand) (ts tx : TypeId)
    (hop : o.op = Op.call { callee := Callee.builtin Builtin.append, args := #[s, x], argTypes := #[ts, tx] }) (sv xv v' : Value) (w' : World) (hs : a.eval s = sv) (hx : a.eval x = xv)
    (hrun : (Builtin.append_ #[ts, tx] o.type #[sv, xv]).run P w = .ok v' w') (h : wpList P ops Q rest (a.put o.dst v') w') : wpList P ops Q (o :: rest) a w := by
  refine wpList_plain hg fun K hK' => ?_
  unfold Oper.wp
  simp [execOp, hop, resolve, invoke, builtin, hs, hx, hrun, Result.andThen]
  exact hK' _ _ h
theorem Chg.of_keeps {g : Nat} {w w1 : World} (h : Keeps g w w1) : Chg (fun b => b = g) w w1 := Chg.of_grown h (fun _ e => by cases e; rfl)
def FitS (s : Stt) : Prop := s.frames.length * 64 ≤ 140737488351232 ∧ s.out.length * 8 ≤ 140737488351232 ∧ ∀ f ∈ s.frames, f.locals.length * 8 ≤ 140737488351232 ∧ f.stack.length * 8 ≤ 140737488351232
theorem info_frame : (Tryd.prog.info? 149).map (fun i => (i.zero, i.size, i.bytes)) = some (some (.agg #[.int .i64 0, .int .i64 0, .slice none 0 0, .slice none 0 0]), 4, 64) := by kernel_rfl
/-- A call that answers a state of its own. -/
def CopyE (s : Stt) (w : World) (e : Ending) (w' : World) : Prop := ∃ fv ov vss, e = .returned (sttV s fv ov) ∧ OwnS w' w.heap.size s fv ov vss ∧ Below w.heap.size w w'
end Go.Proofs.YtpfgklkdldkajaaDoor
