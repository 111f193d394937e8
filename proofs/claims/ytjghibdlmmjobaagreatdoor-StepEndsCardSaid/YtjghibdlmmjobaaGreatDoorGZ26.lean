/- The document's 'Fresh', 'Start'. Conditions: the program, the args lie in memory; the args are no more than the locals. The document's 'Start': the state that a program begins with. Conditions: the program, the args lie in memory. The document's 'StateMay' answers what the plain definition says. Conditions: the program, the state lie in memory as they are said. -/
import Derived.Test.YtjghibdlmmjobaaGreatDoorGZ25
import Derived.Test.YtjghibdlmmjobaaGreatDoorGZ20
namespace Go.Proofs.YtjghibdlmmjobaaGreatDoor
open Go.RowKit

theorem beginL_step {args : List Int} {L k : Nat} (hk : k < args.length) (hL : args.length ≤ L) : beginL (args.take (k + 1)) L = (beginL (args.take k) L).set k args[k] := by
  unfold beginL
  rw [List.take_succ_eq_append_getElem hk]
  have e1 : (args.take k).length = k := by simp; omega
  rw [List.length_append, e1, List.set_append_right _ _ (by omega), e1, Nat.sub_self, show L - k = (L - (k + 1)) + 1 by omega, List.replicate_succ, List.set_cons_zero, List.append_assoc]
  rfl
theorem beginL_nil (args : List Int) (L : Nat) : beginL (args.take 0) L = List.replicate L 0 := by simp [beginL]
set_option maxRecDepth 100000 in
set_option maxHeartbeats 2000000 in
theorem fresh_any (p : List Fn) (Ap A : Option Addr) (cp c n L : Nat) (args : List Int) (w : World) (hr : ReadsF w Ap p) (hn : n < p.length) (hL : p[n].locals = L) (h8 : L ≤ 100) (ha : ReadsI w A args) (hle : args.length ≤ L) :
    Calls Tryz.prog 106 #[.agg #[.slice Ap p.length cp], .int .i64 n, .slice A args.length c] w (BeginE n args L w) := by
  obtain ⟨w1, hw1⟩ : ∃ w1, w.alloc (.cells #[.slice Ap p.length cp] 24) = w1 := ⟨_, rfl⟩
  obtain ⟨w2, hw2⟩ : ∃ w2, w1.alloc (.cells #[.int .i64 0, .int .i64 0, .slice none 0 0, .slice none 0 0] 54) = w2 := ⟨_, rfl⟩
  have b1 : Below w.heap.size w w1 := hw1 ▸ below_alloc (Below.refl _ _) _
  have b2 : Below w1.heap.size w1 w2 := hw2 ▸ below_alloc (Below.refl _ _) _
  have z1 : w1.heap.size = w.heap.size + 1 := by rw [← hw1]; simp
  have z2 : w2.heap.size = w.heap.size + 2 := by rw [← hw2]; simp [z1]
  have b02 := below_trans b1 b2
  have p2 : w2.cell? ⟨w.heap.size, 0, none⟩ = some (.slice Ap p.length cp) := cell_below b2 (hw1 ▸ (blk_cell (blk_new w _) 0).trans rfl)
  have r2 : RowAt 54 w1.heap.size [.int .i64 0, .int .i64 0, .slice none 0 0, .slice none 0 0] w2 := hw2 ▸ RowAt.new _ _ w1
  obtain ⟨ad, rfl, Ac, cc, hF⟩ := fnAt_of hr b02 hn
  have k1 := hF.c1
  rw [hL] at k1
  have hmk := make_ints L h8 w2
  obtain ⟨w3, hw3⟩ : ∃ w3, w2.alloc (.cells (intsV (List.replicate L 0)).toArray 3) = w3 := ⟨_, rfl⟩
  have b3 : Below w2.heap.size w2 w3 := hw3 ▸ below_alloc (Below.refl _ _) _
  have r3 : RowAt 3 w2.heap.size (intsV (List.replicate L 0)) w3 := hw3 ▸ RowAt.new _ _ w2
  rw [hw3] at hmk
  have B3 := Lib.hid (below_trans b02 b3)
  have R3 := Lib.hid (show RowAt 3 w2.heap.size (intsV (beginL (args.take 0) L)) w3 by rw [beginL_nil]; exact r3)
  have R2 := Lib.hid (r2.below b3)
  have RA := Lib.hid ha
  have Z1 := Lib.hid z1
  have Z2 := Lib.hid z2
  have hpn := hr.1
  have hna := ha.1
  clear b1 b2 b3 b02 r2 r3 z1 z2 hr hF ha hL hw3
  go_enter Tryz.func106, Tryz.ntmps106
  go_wp2_with fail
  clear hmk hw1 hw2 k1 p2
  go_loopw [8] (fun i wr => ∃ k : Nat, k ≤ args.length ∧ i = .int .i64 k ∧ RowAt 3 w2.heap.size (intsV (beginL (args.take k) L)) wr ∧ RowAt 54 w1.heap.size [.int .i64 0, .int .i64 0, .slice none 0 0, .slice none 0 0] wr ∧ Keeps w2.heap.size w3 wr) (fun i _ => args.length - (intOf i).toNat)
  case atStart => exact ⟨0, Nat.zero_le _, rfl, R3.out, R2.out, Keeps.refl _ _⟩
  case round =>
    obtain ⟨k, hk, rfl, hrow, hfr, hkp⟩ := hrel
    by_cases hlt : k < args.length
    · have hkL : k < L := by omega
      have d1 : decide (k < args.length) = true := by simpa using hlt
      have d2 : decide (k < L) = true := by simpa using hkL
      have hlen : (beginL (args.take k) L).length = L := beginL_len (by simp; omega)
      obtain ⟨a2, eA, ca⟩ := RA.out.at_ hlt
      subst eA
      have hc0 := cell_below (below_keep B3.out hkp (by have := Z2.out; omega)) ca
      have hkb : k < (beginL (args.take k) L).length := by omega
      have c1 := ints_cell hrow (k := k) hkb
      obtain ⟨x, hx⟩ : ∃ x, (beginL (args.take k) L)[k] = x := ⟨_, rfl⟩
      rw [hx] at c1
      have f1 := hrow.free k
      have s1 := ints_put hrow k args[k]
      rw [← beginL_step hlt hle] at s1
      have S1 := Lib.hid s1
      have K1 := Lib.hid (hkp.put k (.int .i64 args[k]))
      have F1 := Lib.hid (hfr.keeps (show Keeps w2.heap.size wr (wr.setCell ⟨w2.heap.size, k, none⟩ (.int .i64 args[k])) from Keeps.put (Keeps.refl _ _) _ _) (by have := Z1.out; have := Z2.out; omega))
      clear s1 hrow hfr hkp ca hx hkb hlen
      go_wp2_with fail
      go_roundw
      case rel => exact ⟨k + 1, by omega, by go_num, S1.out, F1.out, K1.out⟩
      case measure => simp only [intOf]; omega
    · have hke : args.take k = args := List.take_of_length_le (by omega)
      rw [hke] at hrow
      have f0 := hfr.free 0
      have f1 := hfr.free 1
      have f2 := hfr.free 2
      have f3 := hfr.free 3
      have g0 := hfr.cell (k := 0) (by simp)
      have g1 := hfr.cell (k := 1) (by simp)
      have g2 := hfr.cell (k := 2) (by simp)
      have g3 := hfr.cell (k := 3) (by simp)
      simp only [List.getElem_cons_succ, List.getElem_cons_zero] at g0 g1 g2 g3
      have s1 := hfr.put 0 (.int .i64 n)
      have s2 := s1.put 1 (.int .i64 0)
      have s3 := s2.put 2 (.slice (some ⟨w2.heap.size, 0, none⟩) L L)
      have s4 := s3.put 3 (.slice none 0 0)
      have e0 := s1.cell (k := 0) (by simp)
      have e1 := s2.cell (k := 1) (by simp)
      have e2 := s3.cell (k := 2) (by simp)
      have e3 := s4.cell (k := 3) (by simp)
      simp only [List.set_cons_zero, List.set_cons_succ, List.getElem_cons_succ, List.getElem_cons_zero] at e0 e1 e2 e3
      have hz1 := Z1.out
      have hz2 := Z2.out
      have kb : ∀ (W : World) (k : Nat) (u : Value), Below w.heap.size w W → Below w.heap.size w (W.setCell ⟨w1.heap.size, k, none⟩ u) := fun W k u hb => hb.setCell (p := ⟨w1.heap.size, k, none⟩) (by simp; omega) u
      have br := below_keep B3.out hkp (by omega)
      have b4 := kb _ 3 (.slice none 0 0) (kb _ 2 (.slice (some ⟨w2.heap.size, 0, none⟩) L L) (kb _ 1 (.int .i64 0) (kb _ 0 (.int .i64 n) br)))
      have kr : ∀ (W : World) (k : Nat) (u : Value), RowAt 3 w2.heap.size (intsV (beginL args L)) W → RowAt 3 w2.heap.size (intsV (beginL args L)) (W.setCell ⟨w1.heap.size, k, none⟩ u) := fun W k u h => h.keeps (g := w1.heap.size) (Keeps.put (Keeps.refl _ _) k u) (by omega)
      have r4 := kr _ 3 (.slice none 0 0) (kr _ 2 (.slice (some ⟨w2.heap.size, 0, none⟩) L L) (kr _ 1 (.int .i64 0) (kr _ 0 (.int .i64 n) hrow)))
      have B4 := Lib.hid b4
      have R4 := Lib.hid r4
      have E0 := Lib.hid e0
      have E1 := Lib.hid e1
      have E2 := Lib.hid e2
      have E3 := Lib.hid e3
      have d1 : decide (k < args.length) = false := by simp; omega
      clear s1 s2 s3 s4 e0 e1 e2 e3 kb b4 kr r4 br hz1 hz2 hrow hfr hkp
      go_wp2_with fail
      exact bodyPost_ret (v := .agg #[.int .i64 n, .int .i64 0, .slice (some ⟨w2.heap.size, 0, none⟩) L L, .slice none 0 0]) (by simp [results, Tryz.results106, go_sem, E0.out, E1.out, E2.out, E3.out]) rfl ⟨w2.heap.size, rfl, R4.out, by have := Z2.out; omega, B4.out⟩
end Go.Proofs.YtjghibdlmmjobaaGreatDoor

namespace Go.Proofs.YtjghibdlmmjobaaGreatDoor
open Go.RowKit

set_option maxRecDepth 100000 in
set_option maxHeartbeats 4000000 in
theorem rstart_any (p : List Fn) (Ap A : Option Addr) (cp c : Nat) (args : List Int) (fuel : Int) (w : World) (hr : ReadsF w Ap p) (ha : ReadsI w A args) :
    Calls Tryz.prog 54 #[.agg #[.slice Ap p.length cp], .slice A args.length c, .int .i64 fuel] w (StateE (startS p args fuel) (startC p args fuel) w) := by
  obtain ⟨w1, hw1⟩ : ∃ w1, w.alloc (.cells #[.slice Ap p.length cp] 24) = w1 := ⟨_, rfl⟩
  obtain ⟨w2, hw2⟩ : ∃ w2, w1.alloc (.cells #[.slice none 0 0, .int .i64 0, .slice none 0 0, .int .i64 0, .int .i64 0] 57) = w2 := ⟨_, rfl⟩
  have b1 : Below w.heap.size w w1 := hw1 ▸ below_alloc (Below.refl _ _) _
  have b2 : Below w1.heap.size w1 w2 := hw2 ▸ below_alloc (Below.refl _ _) _
  have z1 : w1.heap.size = w.heap.size + 1 := by rw [← hw1]; simp
  have r1 : RowAt 24 w.heap.size [.slice Ap p.length cp] w2 := (hw1 ▸ RowAt.new _ _ w : RowAt 24 w.heap.size [.slice Ap p.length cp] w1).below b2
  have r2 : RowAt 57 w1.heap.size [.slice none 0 0, .int .i64 0, .slice none 0 0, .int .i64 0, .int .i64 0] w2 := hw2 ▸ RowAt.new _ _ w1
  have B2 := Lib.hid (below_trans b1 b2)
  have R1 := Lib.hid r1
  have R2 := Lib.hid r2
  have Z1 := Lib.hid z1
  have HRF := Lib.hid (hr.below B2.out)
  have HAR := Lib.hid (ha.below B2.out)
  have hna := ha.1
  have HP := Lib.hid (rverify_any p Ap cp w2 HRF.out)
  obtain ⟨vf, hvf⟩ : ∃ vf, verifyOf p = vf := ⟨_, rfl⟩
  have HVF := Lib.hid hvf
  rw [hvf] at HP
  have q1 := row_cell r1
  clear hvf b1 b2 r1 r2 hr ha z1
  by_cases hv : vf = 0
  · have dv : (vf != 0) = false := by simpa using hv
    have HV := Lib.hid (HVF.out.trans hv)
    have hp1 := (packs_len (verifyOf_packs HV.out)).1
    obtain ⟨a0, a4, al, l8, _⟩ := fnMay_of (packs_fn (verifyOf_packs HV.out) (k := 0) hp1)
    obtain ⟨L, hL⟩ := Int.eq_ofNat_of_zero_le (show 0 ≤ p[0].locals by omega)
    have HL := Lib.hid hL
    have L8 : L ≤ 100 := by omega
    have hea : argsAt0 p = p[0].args := by unfold argsAt0; rw [List.getElem?_eq_getElem hp1]
    have hel : localsAt p 0 = L := by unfold localsAt; rw [show (0 : Int).toNat = 0 from rfl, List.getElem?_eq_getElem hp1]; exact hL
    have HE := Lib.hid (show startB p args fuel = (numbersB args p[0].args && decide (0 ≤ fuel) && decide (fuel ≤ 100000)) by unfold startB numbersB; rw [HV.out, hea, decide_eq_true rfl, Bool.true_and, Bool.and_comm (args.all isNum)])
    have HNL := Lib.hid (show numbersB args p[0].args = true → (args.length : Int) = p[0].args from fun h => by unfold numbersB at h; simp only [Bool.and_eq_true, decide_eq_true_eq] at h; exact h.2)
    have HEL := Lib.hid hel
    have AL := Lib.hid al
    clear hv a0 a4 al l8 hL hea hel
    go_enter Tryz.func54, Tryz.ntmps54
    go_wp2_with fail
    refine HP.out.mono ?_
    rintro e w3 ⟨rfl, hB⟩
    have B3 := Lib.hid (below_trans B2.out hB)
    have B23 := Lib.hid hB
    have HRF3 := Lib.hid (HRF.out.below hB)
    have t1 := R1.out.below hB
    have t2 := R2.out.below hB
    have k1 := row_cell t1
    obtain ⟨ad, eA, Ac, cc, hF⟩ := fnAt_of HRF3.out (Below.refl _ _) hp1
    subst eA
    have k2 := hF.c0
    simp only [Nat.zero_mul, add_nil] at k2
    have f0 := t2.free 0
    have f1 := t2.free 1
    have f2 := t2.free 2
    have f3 := t2.free 3
    have f4 := t2.free 4
    have g0 := t2.cell (k := 0) (by simp)
    have g1 := t2.cell (k := 1) (by simp)
    have g2 := t2.cell (k := 2) (by simp)
    have g3 := t2.cell (k := 3) (by simp)
    have g4 := t2.cell (k := 4) (by simp)
    simp only [List.getElem_cons_succ, List.getElem_cons_zero] at g0 g1 g2 g3 g4
    have T2 := Lib.hid t2
    have HB := Lib.hid (fun (hle : args.length ≤ L) => fresh_any p (some ad) A cp c 0 L args w3 HRF3.out hp1 HL.out L8 (HAR.out.below hB) hle)
    obtain ⟨pa, epa⟩ : ∃ pa, p[0].args = pa := ⟨_, rfl⟩
    rw [epa] at k2 HE AL HNL
    have HA := Lib.hid (numbers_any A c args pa w3 (HAR.out.below hB))
    obtain ⟨xa, exa⟩ : ∃ xa, numbersB args pa = xa := ⟨_, rfl⟩
    rw [exa] at HA HE HNL
    clear hB t1 t2 hF q1 hw1 hw2 exa epa
    by_cases hgo : (xa = true ∧ 0 ≤ fuel ∧ fuel ≤ 100000)
    · obtain ⟨rfl, h2, h3⟩ := hgo
      have h1 := HNL.out rfl
      have d2 : decide (fuel < 0) = false := by simpa using h2
      have d3 : decide (100000 < fuel) = false := by simpa using h3
      have HS := Lib.hid (show startB p args fuel = true by rw [HE.out, decide_eq_true h2, decide_eq_true h3]; rfl)
      have HLE := Lib.hid (show args.length ≤ L by have := AL.out; have := HL.out; omega)
      clear h1
      go_wp2_with (go_at_call 69; refine HA.out.mono ?_; rintro e w' ⟨rfl, rfl⟩)
      refine (HB.out HLE.out).mono ?_
      rintro e w4 ⟨g, rfl, hrg, hgl, hB4⟩
      obtain ⟨w5, hw5⟩ : ∃ w5, w4.alloc (.cells #[.int .i64 0, .int .i64 0, .slice (some ⟨g, 0, none⟩) L L, .slice none 0 0] 54) = w5 := ⟨_, rfl⟩
      have b5 : Below w4.heap.size w4 w5 := hw5 ▸ below_alloc (Below.refl _ _) _
      have r5 : RowAt 54 w4.heap.size [.int .i64 0, .int .i64 0, .slice (some ⟨g, 0, none⟩) L L, .slice none 0 0] w5 := hw5 ▸ RowAt.new _ _ w4
      have b35 := below_trans hB4 b5
      have t5 := T2.out.below b35
      have f0 := t5.free 0
      have f1 := t5.free 1
      have f2 := t5.free 2
      have f3 := t5.free 3
      have f4 := t5.free 4
      have g0 := t5.cell (k := 0) (by simp)
      have g1 := t5.cell (k := 1) (by simp)
      have g2 := t5.cell (k := 2) (by simp)
      have g3 := t5.cell (k := 3) (by simp)
      have g4 := t5.cell (k := 4) (by simp)
      simp only [List.getElem_cons_succ, List.getElem_cons_zero] at g0 g1 g2 g3 g4
      have pz := put5 t5 rfl (.slice (some ⟨w4.heap.size, 0, none⟩) 1 1) (.int .i64 fuel) (.slice none 0 0) (.int .i64 0) (.int .i64 0)
      have hzz := B3.out.size
      have hz2 := B23.out.size
      have hz3 := blk_lt T2.out
      have hz4 := hB4.size
      have hgs := blk_lt hrg
      have EE := Lib.hid pz.1
      have KB := Lib.hid (below_keep (below_trans B3.out b35) pz.2 (by have := Z1.out; omega))
      have OF := Lib.hid (own_one (base := w.heap.size) (f := ⟨0, 0, beginL args L, []⟩) ((hrg.below b5).keeps pz.2 (by omega)) (by omega) (beginL_len HLE.out) L8 rfl (r5.keeps pz.2 (by omega)) (by omega) (by omega))
      clear pz hzz hz2 hz3 hz4 hgs b5 r5 b35 t5 hrg hgl hB4
      go_wp2_with fail
      have hS : startS p args fuel = ⟨[⟨0, 0, beginL args L, []⟩], fuel, [], 0, 0⟩ := by unfold startS; rw [if_pos HS.out, HEL.out]; rfl
      have hC : startC p args fuel = 0 := by unfold startC; rw [if_pos HS.out]
      exact bodyPost_ret (v := .tuple #[.agg #[.slice (some ⟨w4.heap.size, 0, none⟩) 1 1, .int .i64 fuel, .slice none 0 0, .int .i64 0, .int .i64 0], .int .i64 0]) (by simp [results, Tryz.results54, go_sem, EE.out.1, EE.out.2.1, EE.out.2.2.1, EE.out.2.2.2.1, EE.out.2.2.2.2]) rfl
        ⟨_, .slice none 0 0, _, by rw [hS, hC]; rfl, by rw [hS]; exact ⟨OF.out, CRow.nil _ _ _ _, fun u hu b hb e => by cases e⟩, KB.out⟩
    · have HS := Lib.hid (show startB p args fuel = false by
        rw [HE.out]
        cases xa
        · simp
        · cases h : (true && decide (0 ≤ fuel) && decide (fuel ≤ 100000)) with
          | false => rfl
          | true =>
            simp only [Bool.and_eq_true, decide_eq_true_eq, true_and] at h
            exact absurd ⟨rfl, h.1, h.2⟩ hgo)
      clear hgo
      have pz := put5 T2.out rfl (.slice none 0 0) (.int .i64 0) (.slice none 0 0) (.int .i64 0) (.int .i64 0)
      have EE := Lib.hid pz.1
      have KB := Lib.hid (below_keep B3.out pz.2 (by have := Z1.out; omega))
      clear pz
      go_wp2_with (go_at_call 69; refine HA.out.mono ?_; rintro e w' ⟨rfl, rfl⟩)
      all_goals first
        | (refine bodyPost_ret (v := .tuple #[.agg #[.slice none 0 0, .int .i64 0, .slice none 0 0, .int .i64 0, .int .i64 0], .int .i64 600]) ?_ rfl ?_; (· simp [results, Tryz.results54, go_sem, EE.out.1, EE.out.2.1, EE.out.2.2.1, EE.out.2.2.2.1, EE.out.2.2.2.2]); exact ⟨.slice none 0 0, .slice none 0 0, [], by rw [(startB_no HS.out).1, (startB_no HS.out).2]; rfl, by rw [(startB_no HS.out).1]; exact OwnS.zero _ _ _ _ _, KB.out⟩)
        | (exfalso; have h := HE.out; rw [HS.out] at h; simp_all; done)
        | (exfalso; have h := HE.out; rw [HS.out] at h; simp_all; omega)
  · have dv : (vf != 0) = true := by simpa using hv
    have HS := Lib.hid (show startB p args fuel = false by unfold startB; rw [HVF.out, decide_eq_false hv]; rfl)
    clear hv
    go_enter Tryz.func54, Tryz.ntmps54
    go_wp2_with fail
    refine HP.out.mono ?_
    rintro e w3 ⟨rfl, hB⟩
    have t2 := R2.out.below hB
    have f0 := t2.free 0
    have f1 := t2.free 1
    have f2 := t2.free 2
    have f3 := t2.free 3
    have f4 := t2.free 4
    have g0 := t2.cell (k := 0) (by simp)
    have g1 := t2.cell (k := 1) (by simp)
    have g2 := t2.cell (k := 2) (by simp)
    have g3 := t2.cell (k := 3) (by simp)
    have g4 := t2.cell (k := 4) (by simp)
    simp only [List.getElem_cons_succ, List.getElem_cons_zero] at g0 g1 g2 g3 g4
    have B3 := Lib.hid (below_trans B2.out hB)
    have pz := put5 t2 rfl (.slice none 0 0) (.int .i64 0) (.slice none 0 0) (.int .i64 0) (.int .i64 0)
    have EE := Lib.hid pz.1
    have KB := Lib.hid (below_keep B3.out pz.2 (by have := Z1.out; omega))
    clear pz
    clear hB t2
    go_wp2_with fail
    exact bodyPost_ret (v := .tuple #[.agg #[.slice none 0 0, .int .i64 0, .slice none 0 0, .int .i64 0, .int .i64 0], .int .i64 600]) (by simp [results, Tryz.results54, go_sem, EE.out.1, EE.out.2.1, EE.out.2.2.1, EE.out.2.2.2.1, EE.out.2.2.2.2]) rfl
          ⟨.slice none 0 0, .slice none 0 0, [], by rw [(startB_no HS.out).1, (startB_no HS.out).2]; rfl, by rw [(startB_no HS.out).1]; exact OwnS.zero _ _ _ _ _, KB.out⟩
end Go.Proofs.YtjghibdlmmjobaaGreatDoor

namespace Go.Proofs.YtjghibdlmmjobaaGreatDoor
open Go.RowKit

theorem numbersB_self (xs : List Int) : numbersB xs xs.length = xs.all isNum := by unfold numbersB; simp
set_option maxRecDepth 100000 in
set_option maxHeartbeats 8000000 in
theorem rstate_any (p : List Fn) (Ap A Ao : Option Addr) (cp c co : Nat) (s : Stt) (w : World) (hr : ReadsF w Ap p) (hf : ReadsFr w A s.frames) (ho : ReadsI w Ao s.out) :
    Calls Tryz.prog 107 #[.agg #[.slice Ap p.length cp], sttV s (.slice A s.frames.length c) (.slice Ao s.out.length co)] w (Ret (.bool (stateB p s)) w) := by
  obtain ⟨fs, fuel, out, done, value⟩ := s
  unfold sttV
  simp only at hf ho ⊢
  obtain ⟨w1, hw1⟩ : ∃ w1, w.alloc (.cells #[.slice Ap p.length cp] 24) = w1 := ⟨_, rfl⟩
  obtain ⟨w2, hw2⟩ : ∃ w2, w1.alloc (.cells #[.slice A fs.length c, .int .i64 fuel, .slice Ao out.length co, .int .i64 done, .int .i64 value] 57) = w2 := ⟨_, rfl⟩
  have b1 : Below w.heap.size w w1 := hw1 ▸ below_alloc (Below.refl _ _) _
  have b2 : Below w1.heap.size w1 w2 := hw2 ▸ below_alloc (Below.refl _ _) _
  have R1 := Lib.hid ((hw1 ▸ RowAt.new _ _ w : RowAt 24 w.heap.size [.slice Ap p.length cp] w1).below b2)
  have R2 := Lib.hid (hw2 ▸ RowAt.new _ _ w1 : RowAt 57 w1.heap.size [.slice A fs.length c, .int .i64 fuel, .slice Ao out.length co, .int .i64 done, .int .i64 value] w2)
  have B2 := Lib.hid (below_trans b1 b2)
  have RP := Lib.hid (hr.below B2.out)
  have RF := Lib.hid (hf.below B2.out)
  have RO := Lib.hid (ho.below B2.out)
  have hno := ho.1
  have hnf := hf.1
  have H := Lib.hid (rverify_any p Ap cp w2 RP.out)
  obtain ⟨vf, hvf⟩ : ∃ vf, verifyOf p = vf := ⟨_, rfl⟩
  have HVF := Lib.hid hvf
  rw [hvf] at H
  have k0 := R1.out.cell (k := 0) (by simp)
  simp only [List.getElem_cons_zero] at k0
  clear hvf b1 b2 hr hf ho
  go_enter Tryz.func107, Tryz.ntmps107
  go_wp2_with fail
  (with_reducible refine H.out.mono ?_)
  rintro e w3 ⟨rfl, hB⟩
  have B3 := Lib.hid (below_trans B2.out hB)
  replace R1 := Lib.hid (R1.out.below hB)
  replace R2 := Lib.hid (R2.out.below hB)
  replace RP := Lib.hid (RP.out.below hB)
  replace RF := Lib.hid (RF.out.below hB)
  replace RO := Lib.hid (RO.out.below hB)
  have l0 := R2.out.cell (k := 0) (by simp)
  have l1 := R2.out.cell (k := 1) (by simp)
  have l2 := R2.out.cell (k := 2) (by simp)
  have l3 := R2.out.cell (k := 3) (by simp)
  have l4 := R2.out.cell (k := 4) (by simp)
  simp only [List.getElem_cons_zero, List.getElem_cons_succ] at l0 l1 l2 l3 l4
  clear H hB hw1 hw2 k0
  by_cases hv : vf = 0
  case neg =>
    have dv : (vf != 0) = true := by simpa using hv
    have HE := Lib.hid (show stateB p ⟨fs, fuel, out, done, value⟩ = false by unfold stateB; rw [HVF.out, decide_eq_false hv]; rfl)
    clear hv
    go_wp2_with fail
    go_ret
    exact ret_tail (by rw [HE.out]; rfl) B3.out (Below.refl _ _)
  have dv : (vf != 0) = false := by simpa using hv
  have HV := Lib.hid (HVF.out.trans hv)
  have HA := Lib.hid (numbers_any Ao co out out.length w3 RO.out)
  rw [numbersB_self] at HA
  have HI := Lib.hid (number_any value w3)
  have HE := Lib.hid (show stateB p ⟨fs, fuel, out, done, value⟩ = (decide (0 ≤ fuel) && decide (fuel ≤ 100000) && decide ((out.length : Int) ≤ 100000 - fuel) && out.all isNum &&
      (if done = 0 then decide (value = 0) && runsB p fs else decide (0 < done) && decide (done ≤ 4) && (decide (fs.length = 0) && (if done = 1 then isNum value else decide (value = 0))))) by
    unfold stateB overB; rw [HV.out]; rfl)
  have HN0 := Lib.hid (show value = 0 → isNum value = true from fun h => by rw [h]; rfl)
  obtain ⟨xo, exo⟩ : ∃ xo, out.all isNum = xo := ⟨_, rfl⟩
  obtain ⟨xv, exv⟩ : ∃ xv, isNum value = xv := ⟨_, rfl⟩
  rw [exo] at HA HE
  rw [exv] at HI HE HN0
  clear hv exo exv
  by_cases hgo : (0 ≤ fuel ∧ fuel ≤ 100000 ∧ (out.length : Int) ≤ 100000 - fuel ∧ xo = true) ∧ done = 0 ∧ value = 0 ∧ 1 ≤ fs.length ∧ fs.length ≤ 12
  case neg =>
    -- all but the walk along the frames
    have HR0 := Lib.hid (show ¬ (1 ≤ fs.length ∧ fs.length ≤ 12) → runsB p fs = false from fun h => by
      unfold runsB
      rw [← Bool.decide_and, decide_eq_false h]; rfl)
    obtain ⟨xr, exr⟩ : ∃ xr, runsB p fs = xr := ⟨_, rfl⟩
    rw [exr] at HE HR0
    have HGO := Lib.hid hgo
    clear exr hgo
    go_wp2_with (first | (go_at_call 69; refine HA.out.mono ?_; rintro e w' ⟨rfl, rfl⟩) | (go_at_call 76; refine HI.out.mono ?_; rintro e w' ⟨rfl, rfl⟩))
    all_goals first
      | (go_ret
         refine ret_tail ?_ B3.out (Below.refl _ _)
         rw [HE.out]
         have hn0 := HN0.out
         have hr0 := HR0.out
         clear HE HN0 HR0 HGO HA HI l0 l1 l2 l3 l4 B3 B2 R1 R2 RP RF RO HV HVF
         first | (simp_all; done) | (simp_all; omega) | (cases xo <;> first | (simp_all; done) | (simp_all; omega) | (simp_all [beq_dec]; done)) | (cases xv <;> first | (simp_all; done) | (simp_all; omega)) | (rcases Classical.em (1 ≤ fs.length ∧ fs.length ≤ 12) with hin | hout; (· exfalso; first | omega | (simp_all; omega)); (· have hx := hr0 hout; clear hr0; simp_all; done)))
      | (exfalso; have h := HGO.out; clear HE HN0 HR0 HGO HA HI l0 l1 l2 l3 l4 B3 B2 R1 R2 RP RF RO HV HVF; first | (simp_all; done) | (simp_all; omega))
  obtain ⟨⟨g1, g2, g3, rfl⟩, rfl, rfl, g4, g5⟩ := hgo
  have HE2 := Lib.hid (show stateB p ⟨fs, fuel, out, 0, 0⟩ = runsB p fs by
    rw [HE.out, decide_eq_true g1, decide_eq_true g2, decide_eq_true g3, if_pos rfl]; rfl)
  obtain ⟨T, hT⟩ : ∃ T, fs.length = T + 1 := ⟨fs.length - 1, by omega⟩
  have e1 : decide (fuel < 0) = false := by simpa using g1
  have e2 : decide (100000 < fuel) = false := by simpa using g2
  have e3 : decide (100000 - fuel < (out.length : Int)) = false := by simpa using g3
  have e4 : decide (T + 1 < 1) = false := by simp
  have e5 : decide (12 < T + 1) = false := by simp; omega
  obtain ⟨ad, eA, hx⟩ := RF.out.at_ (Below.refl _ _) (k := T) (by omega)
  subst eA
  clear hx
  have hT11 : T ≤ 11 := by omega
  rw [hT] at l0 hnf R2
  have HT := Lib.hid hT
  clear hT g4 g5 HE HN0 HI
  go_wp2_with (go_at_call 69; refine HA.out.mono ?_; rintro e w' ⟨rfl, hw⟩; obtain rfl := hw.symm)
  clear e1 e2 e3 e4 e5 g1 g2 g3
  go_loopw [6] (fun i wr => ∃ k : Nat, k ≤ T ∧ i = .int .i64 k ∧ (∀ i (hi : i + 1 < fs.length), i < k → lessB p fs[i] fs[i + 1] = true) ∧ Below w3.heap.size w3 wr) (fun i _ => T - (intOf i).toNat)
  case atStart => exact ⟨0, Nat.zero_le _, rfl, fun _ _ h => absurd h (Nat.not_lt_zero _), Below.refl _ _⟩
  case round =>
    obtain ⟨k, hk, rfl, hvv, hb⟩ := hrel
    have HVV := Lib.hid hvv
    have HB := Lib.hid hb
    have l0 := (R2.out.below hb).cell (k := 0) (by simp)
    simp only [List.getElem_cons_zero] at l0
    clear hvv
    by_cases hlt : k < T
    · have hk0 : k < fs.length := by have := HT.out; omega
      have hk1 : k + 1 < fs.length := by have := HT.out; omega
      obtain ⟨ad', e, hfk⟩ := RF.out.at_ hb hk0
      cases e
      obtain ⟨ad', e, hfl⟩ := RF.out.at_ hb hk1
      cases e
      have g0 := hfl.1
      obtain ⟨f, ef⟩ : ∃ f, fs[k] = f := ⟨_, rfl⟩
      rw [ef] at hfk
      have EF := Lib.hid ef
      obtain ⟨c0, ca1, ⟨A1, c1, ca2, rl⟩, A2, c2, ca3, rs⟩ := hfk
      obtain ⟨wA, hwA⟩ : ∃ wA, wr.alloc (.cells #[.int .i64 f.fn, .int .i64 f.pc, .slice A1 f.locals.length c1, .slice A2 f.stack.length c2] 54) = wA := ⟨_, rfl⟩
      have bA : Below wr.heap.size wr wA := hwA ▸ below_alloc (Below.refl _ _) _
      have rA : RowAt 54 wr.heap.size [.int .i64 f.fn, .int .i64 f.pc, .slice A1 f.locals.length c1, .slice A2 f.stack.length c2] wA := hwA ▸ RowAt.new _ _ wr
      have b3A := below_trans hb bA
      have P1 := R1.out.below b3A
      have P2 := R2.out.below b3A
      have g0A := cell_below bA g0
      have RPA := Lib.hid (RP.out.below b3A)
      have RLA := Lib.hid (rl.below bA)
      have RSA := Lib.hid (rs.below bA)
      have HALL := Lib.hid (show ∀ W', Below wA.heap.size wA W' → W'.cell? ⟨w.heap.size, 0, none⟩ = some (.slice Ap p.length cp) ∧ W'.cell? ⟨w1.heap.size, 0, none⟩ = some (.slice (some ad) (T + 1) c) ∧ W'.cell? ⟨wr.heap.size, 0, none⟩ = some (.int .i64 f.fn) ∧ W'.cell? ⟨wr.heap.size, 1, none⟩ = some (.int .i64 f.pc) ∧ W'.cell? ⟨wr.heap.size, 2, none⟩ = some (.slice A1 f.locals.length c1) ∧ W'.cell? ⟨wr.heap.size, 3, none⟩ = some (.slice A2 f.stack.length c2) ∧ W'.cell? (ad.add ((k + 1) * 4)) = some (.int .i64 fs[k + 1].fn) ∧ Below wA.heap.size wA W' from fun W' hb =>
        ⟨(P1.below hb).cell (k := 0) (by simp), (P2.below hb).cell (k := 0) (by simp), (rA.below hb).cell (k := 0) (by simp), (rA.below hb).cell (k := 1) (by simp), (rA.below hb).cell (k := 2) (by simp), (rA.below hb).cell (k := 3) (by simp), cell_below hb g0A, hb⟩)
      have B3A := Lib.hid b3A
      have HF := Lib.hid (show ∀ (W' : World), Below wA.heap.size wA W' → Calls Tryz.prog 149 #[.agg #[.slice Ap p.length cp], .agg #[.int .i64 f.fn, .int .i64 f.pc, .slice A1 f.locals.length c1, .slice A2 f.stack.length c2], .int .i64 1] W' (Ret (.bool (frameB p f 1)) W') from fun W' hb =>
        rframe_any p Ap A1 A2 cp c1 c2 f 1 W' HV.out (RPA.out.below hb) (RLA.out.below hb) (RSA.out.below hb) (by omega))
      have q1 : IntKind.i64.wrap ((k : Int) + 1) = k + 1 := IntWalk.i64_in _ (by omega)
      have q2 : (0 : Int) ≤ k + 1 := by omega
      have q3 : ((k : Int) + 1).toNat = k + 1 := by omega
      have q4 : (k : Int) + 1 < (T : Int) + 1 := by omega
      obtain ⟨x1, ex1⟩ : ∃ x1, frameB p f 1 = x1 := ⟨_, rfl⟩
      rw [ex1] at HF
      have EX1 := Lib.hid ex1
      clear hfl bA rA b3A P1 P2 g0A rl rs ef hb
      cases x1 with
      | false =>
        have HEF := Lib.hid (runs_false (p := p) hk1 (show lessB p fs[k] fs[k + 1] = false by unfold lessB; rw [EF.out, EX1.out]; rfl))
        clear ex1 q1 q2 q3
        go_wp2_with fail
        clear hwA
        have HALLB := Lib.hid (show ∀ W', Bel wA W' → _ from fun W' hb => HALL.out W' hb)
        have HFB := Lib.hid (show ∀ W', Bel wA W' → Calls _ _ _ W' (fun e w'' => e = _ ∧ Bel wA w'') from fun W' hb => (HF.out W' hb).mono fun e w'' h => ⟨h.1, bel_trans hb h.2⟩)
        refine wp_region_bel (by kernel_rfl) (by kernel_rfl) ?_
        repeat
          first
            | go_big_quiet_skip
            | (go_big_quiet_want
               apply Exists.intro
               refine ⟨fun W' hW' => ?_, ?_⟩
               · obtain ⟨y0, y1, y2, y3, y4, y5, y6, -⟩ := HALLB.out W' hW'
                 go_simp
                 first
                   | exact rfl
                   | (with_reducible exact HFB.out W' hW')
               go_simp
               go_big_quiet_on)
        refine wpQuiet_nil ?_
        intro wq hq
        have HQ := Lib.hid (show Below wA.heap.size wA wq from hq)
        clear hq HALLB HFB
        go_wp2_with fail
        go_ret
        exact ret_tail (by rw [HE2.out, HEF.out]; rfl) (below_trans B3.out B3A.out) HQ.out
      | true =>
        obtain ⟨n', m', hn', hm', hnl, hml⟩ := frameB_in HV.out ex1
        have h64 := (codeMay_len (fnMay_of (packs_fn (verifyOf_packs HV.out) hnl)).2.2.2.2).2
        have HBH := Lib.hid (show ∀ (W' : World), Below wA.heap.size wA W' → Calls Tryz.prog 93 #[.agg #[.slice Ap p.length cp], .int .i64 f.fn, .int .i64 f.pc, .int .i64 fs[k + 1].fn] W' (Ret (.bool (behindB p f.fn f.pc fs[k + 1].fn)) W') from fun W' hb =>
          rbehind_any p Ap cp f.fn f.pc fs[k + 1].fn W' HV.out (RPA.out.below hb) (by rw [hm']; omega))
        obtain ⟨x2, ex2⟩ : ∃ x2, behindB p f.fn f.pc fs[k + 1].fn = x2 := ⟨_, rfl⟩
        rw [ex2] at HBH
        have EX2 := Lib.hid (show lessB p fs[k] fs[k + 1] = x2 by unfold lessB; rw [EF.out, EX1.out, ex2]; rfl)
        clear ex1 ex2 hn' hm' hml h64
        cases x2 with
        | false =>
          have HEF := Lib.hid (runs_false (p := p) hk1 EX2.out)
          go_wp2_with fail
          clear hwA
          have HALLB := Lib.hid (show ∀ W', Bel wA W' → _ from fun W' hb => HALL.out W' hb)
          have HFB := Lib.hid (show ∀ W', Bel wA W' → Calls _ _ _ W' (fun e w'' => e = _ ∧ Bel wA w'') from fun W' hb => (HF.out W' hb).mono fun e w'' h => ⟨h.1, bel_trans hb h.2⟩)
          have HBHB := Lib.hid (show ∀ W', Bel wA W' → Calls _ _ _ W' (fun e w'' => e = _ ∧ Bel wA w'') from fun W' hb => (HBH.out W' hb).mono fun e w'' h => ⟨h.1, bel_trans hb h.2⟩)
          refine wp_region_bel (by kernel_rfl) (by kernel_rfl) ?_
          repeat
            first
              | go_big_quiet_skip
              | (go_big_quiet_want
                 apply Exists.intro
                 refine ⟨fun W' hW' => ?_, ?_⟩
                 · obtain ⟨y0, y1, y2, y3, y4, y5, y6, -⟩ := HALLB.out W' hW'
                   go_simp
                   first
                     | exact rfl
                     | (with_reducible exact HFB.out W' hW')
                     | (with_reducible exact HBHB.out W' hW')
                 go_simp
                 go_big_quiet_on)
          refine wpQuiet_nil ?_
          intro wq hq
          have HQ := Lib.hid (show Below wA.heap.size wA wq from hq)
          clear hq HALLB HFB HBHB
          go_wp2_with fail
          go_ret
          exact ret_tail (by rw [HE2.out, HEF.out]; rfl) (below_trans B3.out B3A.out) HQ.out
        | true =>
          go_wp2_with fail
          clear hwA
          have HALLB := Lib.hid (show ∀ W', Bel wA W' → _ from fun W' hb => HALL.out W' hb)
          have HFB := Lib.hid (show ∀ W', Bel wA W' → Calls _ _ _ W' (fun e w'' => e = _ ∧ Bel wA w'') from fun W' hb => (HF.out W' hb).mono fun e w'' h => ⟨h.1, bel_trans hb h.2⟩)
          have HBHB := Lib.hid (show ∀ W', Bel wA W' → Calls _ _ _ W' (fun e w'' => e = _ ∧ Bel wA w'') from fun W' hb => (HBH.out W' hb).mono fun e w'' h => ⟨h.1, bel_trans hb h.2⟩)
          refine wp_region_bel (by kernel_rfl) (by kernel_rfl) ?_
          repeat
            first
              | go_big_quiet_skip
              | (go_big_quiet_want
                 apply Exists.intro
                 refine ⟨fun W' hW' => ?_, ?_⟩
                 · obtain ⟨y0, y1, y2, y3, y4, y5, y6, -⟩ := HALLB.out W' hW'
                   go_simp
                   first
                     | exact rfl
                     | (with_reducible exact HFB.out W' hW')
                     | (with_reducible exact HBHB.out W' hW')
                 go_simp
                 go_big_quiet_on)
          refine wpQuiet_nil ?_
          intro wq hq
          have HQ := Lib.hid (show Below wA.heap.size wA wq from hq)
          clear hq HALLB HFB HBHB
          go_wp2_with fail
          go_roundw
          case rel => exact ⟨k + 1, by omega, by go_num, fun i hi h => by
            rcases Nat.lt_or_ge i k with h2 | h2
            · exact HVV.out i hi h2
            · obtain rfl : i = k := by omega
              exact EX2.out, below_trans B3A.out HQ.out⟩
          case measure => simp only [intOf]; omega
    · obtain rfl : k = T := by omega
      have hkT : k < fs.length := by have := HT.out; omega
      obtain ⟨ad', e, hfk⟩ := RF.out.at_ hb hkT
      cases e
      obtain ⟨c0, ca1, ⟨A1, c1, ca2, rl⟩, A2, c2, ca3, rs⟩ := hfk
      have P1 := R1.out.below hb
      have P2 := R2.out.below hb
      have RPA := Lib.hid (RP.out.below hb)
      have RLA := Lib.hid rl
      have RSA := Lib.hid rs
      have HALL := Lib.hid (show ∀ W', Below wr.heap.size wr W' → W'.cell? ⟨w.heap.size, 0, none⟩ = some (.slice Ap p.length cp) ∧ W'.cell? ⟨w1.heap.size, 0, none⟩ = some (.slice (some ad) (k + 1) c) ∧ W'.cell? (ad.add (k * 4)) = some (.int .i64 fs[k].fn) ∧ W'.cell? ⟨(ad.add (k * 4)).block, (ad.add (k * 4)).off + 1, none⟩ = some (.int .i64 fs[k].pc) ∧ W'.cell? ⟨(ad.add (k * 4)).block, (ad.add (k * 4)).off + 2, none⟩ = some (.slice A1 fs[k].locals.length c1) ∧ W'.cell? ⟨(ad.add (k * 4)).block, (ad.add (k * 4)).off + 3, none⟩ = some (.slice A2 fs[k].stack.length c2) ∧ Below wr.heap.size wr W' from fun W' hb =>
        ⟨(P1.below hb).cell (k := 0) (by simp), (P2.below hb).cell (k := 0) (by simp), cell_below hb c0, cell_below hb ca1, cell_below hb ca2, cell_below hb ca3, hb⟩)
      have HF := Lib.hid (show ∀ (W' : World), Below wr.heap.size wr W' → Calls Tryz.prog 149 #[.agg #[.slice Ap p.length cp], .agg #[.int .i64 fs[k].fn, .int .i64 fs[k].pc, .slice A1 fs[k].locals.length c1, .slice A2 fs[k].stack.length c2], .int .i64 0] W' (Ret (.bool (frameB p fs[k] 0)) W') from fun W' hb =>
        rframe_any p Ap A1 A2 cp c1 c2 fs[k] 0 W' HV.out (RPA.out.below hb) (RLA.out.below hb) (RSA.out.below hb) (by omega))
      have HEF := Lib.hid (runs_last HT.out (by have := HT.out; omega) HVV.out)
      have q0 : IntKind.i64.wrap ((k : Int) + 1 - 1) = k := by rw [show ((k : Int) + 1 - 1) = k by omega]; exact IntWalk.i64_in _ (by omega)
      have q0b : IntKind.i64.wrap (k : Int) = k := IntWalk.i64_in _ (by omega)
      have q0c : wrap64 (k : Int) = k := by unfold wrap64; omega
      have q4 : (k : Int) < (k : Int) + 1 := by omega
      have q5 : k < k + 1 := by omega
      clear P1 P2 rl rs hb
      go_wp2_with fail
      have HALLB := Lib.hid (show ∀ W', Bel wr W' → _ from fun W' hb => HALL.out W' hb)
      have HFB := Lib.hid (show ∀ W', Bel wr W' → Calls _ _ _ W' (fun e w'' => e = _ ∧ Bel wr w'') from fun W' hb => (HF.out W' hb).mono fun e w'' h => ⟨h.1, bel_trans hb h.2⟩)
      refine wp_region_bel (by kernel_rfl) (by kernel_rfl) ?_
      repeat
        first
          | go_big_quiet_skip
          | (go_big_quiet_want
             apply Exists.intro
             refine ⟨fun W' hW' => ?_, ?_⟩
             · obtain ⟨y0, y1, y2, y3, y4, y5, -⟩ := HALLB.out W' hW'
               go_simp
               first
                 | exact rfl
                 | (with_reducible exact HFB.out W' hW')
             go_simp
             go_big_quiet_on)
      refine wpQuiet_nil ?_
      intro wq hq
      have HQ := Lib.hid (show Below wr.heap.size wr wq from hq)
      clear hq HALLB HFB
      go_wp2_with fail
      go_ret
      exact ret_tail (by rw [HE2.out, HEF.out]; rfl) (below_trans B3.out HB.out) HQ.out
end Go.Proofs.YtjghibdlmmjobaaGreatDoor
