/- The document's 'walk' reckons the same heights. Conditions: the program may be packed, the function is plain; they lie in memory as they are said. 'verify.Heights' and the document's 'Heights' answer the same heights, 'verify.Program' and the document's 'Verify' the same error. Conditions: the program lies in memory as it is said; errors.errorType is laid. The document's 'Heights' answers the same heights. Conditions: the program lies in memory as it is said. -/
import Derived.Test.YtjghibdlmmjobaaGreatDoorGZ07
import Derived.Deep.DeepCutAuto
import Derived.StillTailTactics
namespace Go.Proofs.YtjghibdlmmjobaaGreatDoor
open Go.RowKit

/-- A call that answers a list of ints, a pc, an error; the list is new. -/
def HeightsE (r : List Int × Int × Int) (w : World) (e : Ending) (w' : World) : Prop := ∃ v, e = .returned (.tuple #[v, .int .i64 r.2.1, .int .i64 r.2.2]) ∧ ORow w' w.heap.size 3 1 v r.1.length (intsV r.1) ∧ Below w.heap.size w w'
def walkR (r : Nat ⊕ List Int) : List Int × Int × Int := match r with
  | .inl pc => ([], (pc : Int), 502)
  | .inr out => (out, 0, 0)
theorem hstart_part {code : List Ins} : (part1 code.length code.length).set 0 0 = hstart code := by simp [part1, hstart]
theorem part_set {n k : Nat} (h : k < n) : (part1 n k).set k (-1) = part1 n (k + 1) := by
  unfold part1
  rw [List.set_append_right _ _ (by simp)]
  obtain ⟨m, hm⟩ : ∃ m, n - k = m + 1 := ⟨n - k - 1, by omega⟩
  rw [List.length_replicate, Nat.sub_self, hm, List.replicate_succ, List.set_cons_zero, show n - (k + 1) = m by omega, List.replicate_succ', List.append_assoc]
  rfl
set_option maxRecDepth 100000 in
set_option maxHeartbeats 8000000 in
theorem rwalk_any (p : List Fn) (Ap : Option Addr) (cp : Nat) (f : Fn) (A : Option Addr) (c : Nat) (w : World) (hr : ReadsF w Ap p) (hF : ReadsC w A f.code)
    (hp : packs p = true) (hm : codeMay f.code = true) (hpl : plainOf p f = none) : Calls Tryz.prog 169 #[.agg #[.slice Ap p.length cp], fnV f A c] w (HeightsE (walkR (hwalkOf p f.code)) w) := by
  have b0 : Below w.heap.size w (w.alloc (.cells #[.slice Ap p.length cp] 24)) := below_alloc (Below.refl _ _) _
  have hF1 := fnAt_new f A c _ (hF.below b0)
  have b1 := below_alloc b0 (.cells #[.int .i64 f.args, .int .i64 f.locals, .slice A f.code.length c] 84)
  have e1 : (w.alloc (.cells #[.slice Ap p.length cp] 24)).heap.size = w.heap.size + 1 := by simp
  rw [e1] at hF1
  have hP1 : ((w.alloc (.cells #[.slice Ap p.length cp] 24)).alloc (.cells #[.int .i64 f.args, .int .i64 f.locals, .slice A f.code.length c] 84)).cell? ⟨w.heap.size, 0, none⟩ = some (.slice Ap p.length cp) := Lib.cell?_alloc_some _ ((blk_cell (blk_new w _) 0).trans rfl)
  obtain ⟨w1, hw1⟩ : ∃ w1, (w.alloc (.cells #[.slice Ap p.length cp] 24)).alloc (.cells #[.int .i64 f.args, .int .i64 f.locals, .slice A f.code.length c] 84) = w1 := ⟨_, rfl⟩
  rw [hw1] at hF1 hP1 b1
  have HP := Lib.hid hP1
  have HF := Lib.hid hF1
  have HRF := Lib.hid (hr.below b1)
  have HPK := Lib.hid hp
  have HC := Lib.hid hm
  have HPL := Lib.hid hpl
  have B1 := Lib.hid b1
  obtain ⟨h1, h64⟩ := codeMay_len hm
  have hmk := make_ints f.code.length (by omega) w1
  have c2 := hF1.c2
  obtain ⟨R, hR⟩ : ∃ R, hwalkOf p f.code = R := ⟨_, rfl⟩
  have HRes := Lib.hid hR
  have HW1 := Lib.hid hw1
  clear hP1 hF1 hF hr hp hm hpl b0 b1 hR e1
  unfold fnV
  go_enter Tryz.func169, Tryz.ntmps169
  go_wp2_with fail
  clear hw1 hmk c2
  have hz1 : w.heap.size + 2 ≤ w1.heap.size := by have := congrArg (fun w : World => w.heap.size) HW1.out; simp at this; omega
  have r0 : RowAt 3 w1.heap.size (intsV (part1 f.code.length 0)) (w1.alloc (.cells (intsV (List.replicate f.code.length 0)).toArray 3)) := by
    have := RowAt.new 3 (intsV (List.replicate f.code.length 0)) w1
    rwa [show List.replicate f.code.length (0 : Int) = part1 f.code.length 0 by simp [part1]] at this ⊢
  have B2 := Lib.hid (below_alloc B1.out (.cells (intsV (List.replicate f.code.length 0)).toArray 3))
  have R0 := Lib.hid r0
  clear r0
  go_loopw [8] (fun i wr => ∃ k : Nat, i = .int .i64 k ∧ k ≤ f.code.length ∧ RowAt 3 w1.heap.size (intsV (part1 f.code.length k)) wr ∧ Below w.heap.size w wr ∧ Below w1.heap.size w1 wr) (fun i _ => f.code.length - (intOf i).toNat)
  case atStart => exact ⟨0, rfl, Nat.zero_le _, R0.out, B2.out, below_alloc (Below.refl _ _) _⟩
  case round =>
    obtain ⟨k, rfl, hk, hr, hb, hb1⟩ := hrel
    have HR := Lib.hid hr
    have HB := Lib.hid hb
    have HB1 := Lib.hid hb1
    clear hr hb hb1 R0 B2
    by_cases hlt : k < f.code.length
    · have hkl : k < (part1 f.code.length k).length := by rw [part_len _ _ hk]; exact hlt
      have c0 := ints_cell HR.out hkl
      have f0 := HR.out.free k
      have hR2 := ints_put HR.out k (-1)
      rw [part_set hlt] at hR2
      have HR2 := Lib.hid hR2
      clear hR2
      go_wp2_with fail
      go_roundw
      case rel => exact ⟨k + 1, by go_num, by omega, HR2.out, Below.setCell HB.out (p := ⟨w1.heap.size, k, none⟩) (by simp; omega) _, Below.setCell HB1.out (p := ⟨w1.heap.size, k, none⟩) (by simp) _⟩
      case measure => simp only [intOf]; omega
    · obtain rfl : k = f.code.length := by omega
      have c0 := ints_cell HR.out (k := 0) (by rw [part_len _ _ (Nat.le_refl _)]; exact h1)
      have f0 := HR.out.free 0
      have r1 := ints_put HR.out 0 0
      rw [hstart_part] at r1
      have hz : wr.heap.size > w1.heap.size := blk_lt HR.out
      have q1 : ORow ((wr.setCell ⟨w1.heap.size, 0, none⟩ (.int .i64 0)).alloc (.cells #[.int .i64 0] 3)) wr.heap.size 3 1 (.slice (some ⟨wr.heap.size, 0, none⟩) 1 1) 1 (intsV (natsI [0])) := by
        have := RowAt.new 3 (intsV (natsI [0])) (wr.setCell ⟨w1.heap.size, 0, none⟩ (.int .i64 0))
        rw [show (wr.setCell ⟨w1.heap.size, 0, none⟩ (.int .i64 0)).heap.size = wr.heap.size by simp] at this
        exact ORow.of_row this (Nat.le_refl _) (by simp [intsV, natsI]) (by decide)
      have R1 := Lib.hid (r1.below (below_alloc (Below.refl _ _) (.cells #[.int .i64 0] 3)))
      have Q1 := Lib.hid q1
      have BB := Lib.hid (below_alloc (Below.setCell HB.out (p := ⟨w1.heap.size, 0, none⟩) (by simp; omega) (.int .i64 0)) (.cells #[.int .i64 0] 3))
      have BB1 := Lib.hid (below_alloc (Below.setCell HB1.out (p := ⟨w1.heap.size, 0, none⟩) (by simp) (.int .i64 0)) (.cells #[.int .i64 0] 3))
      clear r1 q1
      obtain ⟨w2, rfl⟩ : ∃ w2 : World, w2 = wr := ⟨_, rfl⟩
      obtain ⟨g, hg⟩ : ∃ g, w1.heap.size = g := ⟨_, rfl⟩
      have HG := Lib.hid hg
      rw [hg] at c0 f0 R1 BB1 BB hz hz1 Q1
      clear HR HB HB1
      rw [hg]
      clear hg
      go_wp2_with fail
      clear c0 f0
      go_loopg [9] (f.code.length + 1) (fun m v wr => ∃ (out : List Int) (row : List Nat), HInv f.code out row ∧ hwalk p f.code m out row = R ∧ unsetH out + row.length ≤ m ∧ m ≤ f.code.length + 1 ∧ ORow wr w2.heap.size 3 1 v row.length (intsV (natsI row)) ∧ RowAt 3 g (intsV out) wr ∧ Below w.heap.size w wr ∧ Below w1.heap.size w1 wr ∧ w2.heap.size ≤ wr.heap.size)
      case atStart => exact ⟨hstart f.code, [0], HInv.start HC.out, HRes.out, by
        have : unsetH (hstart f.code) + 1 = f.code.length := by
          unfold hstart
          unfold unsetH
          rw [List.countP_set (by simp; omega)]
          simp [List.countP_replicate]; omega
        simp; omega, Nat.le_refl _, Q1.out, R1.out, BB.out, by rw [HG.out]; exact BB1.out, by simp⟩
      case round =>
        obtain ⟨out, row, hi, hw, hmu, hgk, hq, hr, hb, hb1, hsz⟩ := hrel
        have HSZ := Lib.hid hsz
        clear R1 Q1 BB BB1
        have HI := Lib.hid hi
        have HW := Lib.hid hw
        have HR := Lib.hid hr
        have HB := Lib.hid hb
        have HB1 := Lib.hid hb1
        clear hi hw hr hb hb1 hsz
        rcases row with _ | ⟨pc, row⟩
        · obtain ⟨ao, cap, rfl, _⟩ := hq.shape
          clear hq
          have hol := HI.out.len
          have HOL := Lib.hid hol
          clear hol
          go_wp2_with fail
          go_ret3
          have e := HW.out
          rw [hwalk_nil] at e
          rw [HRes.out, ← e]
          have hlen : out.length ≤ 64 := by rw [HOL.out]; exact h64
          have hO := ORow.of_row (base := w.heap.size) (n := out.length) (sz := 1) HR.out (by omega) (by rw [intsV_len, Nat.mul_one]) (by unfold maxLen; omega)
          exact ⟨_, by rw [← HOL.out]; rfl, hO, HB.out⟩
        · obtain ⟨ao, cap, rfl, _⟩ := hq.shape
          rw [natsI_cons, List.length_cons] at hq
          obtain ⟨gq, off, rfl, _, hgq, hcs⟩ := hq.cell (k := 0) (by simp [intsV])
          have HGQ := Lib.hid hgq
          have e0 := (hcs 0 (by simp [intsV])).1
          simp only [intsV_cons, List.getElem_cons_zero, Nat.add_zero] at e0
          obtain ⟨vt, hrun, hqt, hob, -⟩ := hq.tail_int
          rw [natsI_len] at hqt
          obtain ⟨hpo, hpn⟩ := HI.out.inrow pc (by simp)
          have hpc : pc < f.code.length := by rw [← HI.out.len]; exact hpo
          obtain ⟨hrc, ho0, ho8⟩ := HI.out.sound pc hpo hpn
          have hmx := may_mem HC.out hpc
          have hrg := ranged_of HC.out HPL.out hrc hpc
          have hx14 := ranged_call hmx hrg
          obtain ⟨a0, a4⟩ := argsOf_in HPK.out f.code[pc]
          obtain ⟨t0, t4⟩ := takes_in f.code[pc].kind _ a0 a4
          obtain ⟨u0, u2⟩ := puts_in f.code[pc].kind
          have HEF := Lib.hid (reffect_may hmx a0 a4)
          obtain ⟨m', rfl⟩ : ∃ m', gk = m' + 1 := ⟨gk - 1, by simp at hmu; omega⟩
          have hbad := hwalk_bad (p := p) (n := m') (row := row) hpc hpo
          have hstp := hwalk_step (p := p) (n := m') (row := row) hpc hpo
          unfold behindH at hbad hstp
          obtain ⟨ad, eA, i0, i1⟩ := HF.out.r.at_ HB1.out hpc
          have k2 := (HF.out.below HB1.out).c2
          have kP := (HB1.out.cell (World.block_lt_of_cell? w1 _ HP.out)).trans HP.out
          subst eA
          have HQ := Lib.hid hqt
          have HX := Lib.hid hx14
          have HBAD := Lib.hid hbad
          have HSTP := Lib.hid hstp
          have HRC := Lib.hid hrc
          have HOB := Lib.hid hob
          clear hq hcs hgq hpn hmx hrg hx14 hbad hstp hrc hqt hob
          go_upto_if 49 with fail
          go_cut [11] (fun v wc => v = .int .i64 (argsOf p f.code[pc]) ∧ Below wr.heap.size wr wc)
          case first =>
            by_cases k14 : f.code[pc].kind = 14
            · have d14 : (f.code[pc].kind == 14) = true := by simpa using k14
              obtain ⟨x0, xl⟩ := HX.out k14
              obtain ⟨n, hn⟩ := Int.eq_ofNat_of_zero_le x0
              have hnl : n < p.length := by rw [hn] at xl; simpa using xl
              obtain ⟨adp, ep, j0, j1, _⟩ := HRF.out.at_ HB1.out hnl
              subst ep
              have ea : argsOf p f.code[pc] = p[n].args := by unfold argsOf; rw [if_pos k14, hn]; simp [hnl]
              rw [hn] at i1
              have EA := Lib.hid ea
              clear ea hn x0 xl j1
              go_wp2_with fail
              go_quiet (fail)
              go_wp2_with fail
              go_meet
              case rel => exact ⟨by rw [EA.out], below_drew (Below.refl _ _) _⟩
            · have d14 : (f.code[pc].kind == 14) = false := by simpa using k14
              have ea : argsOf p f.code[pc] = 0 := by unfold argsOf; rw [if_neg k14]
              have EA := Lib.hid ea
              clear ea
              go_wp2_with fail
              go_meet
              case rel => exact ⟨by rw [EA.out], Below.refl _ _⟩
          case rest =>
            obtain ⟨rfl, hbc⟩ := hcut
            obtain ⟨tk, htk⟩ : ∃ tk, takesOf f.code[pc].kind (argsOf p f.code[pc]) = tk := ⟨_, rfl⟩
            obtain ⟨pt, hpt⟩ : ∃ pt, putsOf f.code[pc].kind = pt := ⟨_, rfl⟩
            obtain ⟨o, ho⟩ : ∃ o, out[pc] = o := ⟨_, rfl⟩
            rw [htk, hpt] at HEF HBAD HSTP
            rw [ho] at HBAD HSTP ho0 ho8
            rw [htk] at t0 t4
            rw [hpt] at u0 u2
            clear htk hpt i0 i1 k2 kP e0 hrun
            have HU := Lib.hid hbc
            obtain ⟨ad', eA, i0, i1⟩ := HF.out.r.at_ (below_trans HB1.out hbc) hpc
            cases eA
            have k2 := (HF.out.below (below_trans HB1.out hbc)).c2
            clear hbc
            go_wp2_with fail
            refine (HEF.out _).mono ?_
            rintro e w3 ⟨rfl, hB3⟩
            have HV := Lib.hid (below_trans HU.out hB3)
            have HBc := Lib.hid (below_trans HB.out HV.out)
            have s2 := ints_cell (HR.out.below HV.out) hpo
            rw [ho] at s2
            clear hB3 i0 i1 k2 ho HEF HU
            by_cases c1 : o < tk
            · have d1 : decide (o < tk) = true := by simpa using c1
              have HH := Lib.hid (show o < tk ∨ 8 < o - tk + pt from .inl c1)
              go_wp2_with fail
              go_ret3
              rw [HRes.out, ← HW.out, HBAD.out HH.out]
              exact ⟨_, rfl, ORow.nil _ _ _ _, HBc.out⟩
            have d1 : decide (o < tk) = false := by simpa using c1
            by_cases c2 : 8 < o - tk + pt
            · have d2 : decide (8 < o - tk + pt) = true := by simpa using c2
              have HH := Lib.hid (show o < tk ∨ 8 < o - tk + pt from .inr c2)
              go_wp2_with fail
              go_ret3
              rw [HRes.out, ← HW.out, HBAD.out HH.out]
              exact ⟨_, rfl, ORow.nil _ _ _ _, HBc.out⟩
            have d2 : decide (8 < o - tk + pt) = false := by simpa using c2
            have hst := HSTP.out (by omega) (by omega)
            have hF4 := HF.out.below (below_trans HB1.out HV.out)
            have HN := Lib.hid (rnext_any f (some ad) c pc w3 hF4.r HC.out hpc)
            rw [nx_eq HC.out hpc] at HN
            have k3 := hF4.c0
            have k4 := hF4.c1
            have k5 := hF4.c2
            have HST := Lib.hid hst
            clear hst hF4
            unfold fnV at HN
            go_wp2_with fail
            refine HN.out.mono ?_
            rintro e w4 ⟨B, d, rfl, hl, hB4, hlo3⟩
            clear k3 k4 k5 s2 HN
            obtain ⟨hh, hhe⟩ : ∃ hh, o - tk + pt = hh := ⟨_, rfl⟩
            rw [hhe] at HST c2
            rw [hhe]
            have hh0 : 0 ≤ hh := by omega
            have hh1 : hh ≠ -1 := by omega
            obtain ⟨S, hS⟩ : ∃ S, hstep hh (nx f.code pc) out row = S := ⟨_, rfl⟩
            rw [hS] at HST
            have HS := Lib.hid hS
            have HHE := Lib.hid hhe
            have HL := Lib.hid hl
            have HV2 := Lib.hid (below_trans HV.out hB4)
            have HQ3 := Lib.hid (HQ.out.below HV2.out)
            have HR3 := Lib.hid (HR.out.below HV2.out)
            have HB3 := Lib.hid (below_trans HB.out HV2.out)
            have HB13 := Lib.hid (below_trans HB1.out HV2.out)
            have HSZ3 := Lib.hid (Nat.le_trans HSZ.out HV2.out.size)
            have hBa : ∀ a, B = some a → Apart vt a.block ∧ a.block ≠ g := fun a e => by
              have h1 := hlo3 a e
              have h3 := HV.out.size
              have h4 := blk_lt HR.out
              exact ⟨fun e => by
                rw [HOB.out] at e
                have e2 : gq = a.block := Option.some.inj e
                have := HGQ.out
                omega, by omega⟩
            have HBA := Lib.hid hBa
            clear hS hhe hl hB4 hlo3 hBa HQ HR
            have hn2 := nx_len f.code pc
            go_wp2_with fail
            go_loopw [9, 18] (fun v i w4 => ∃ (j : Nat) (out' : List Int) (row' : List Nat), i = .int .i64 j ∧ j ≤ (nx f.code pc).length ∧ HInv f.code out' row' ∧ hstep hh ((nx f.code pc).drop j) out' row' = S ∧ unsetH out' + row'.length = unsetH out + row.length ∧ ORow w4 w2.heap.size 3 1 v row'.length (intsV (natsI row')) ∧ RowAt 3 g (intsV out') w4 ∧ Below w.heap.size w w4 ∧ ReadsI w4 B (natsI (nx f.code pc)) ∧ (∀ a, B = some a → Apart v a.block ∧ a.block ≠ g) ∧ w2.heap.size ≤ w4.heap.size ∧ Below w1.heap.size w1 w4) (fun _ i _ => (nx f.code pc).length - (intOf i).toNat)
            case atStart => exact ⟨0, out, row, rfl, by omega, HI.out.tail, by rw [List.drop_zero]; exact HS.out, rfl, HQ3.out, HR3.out, HB3.out, HL.out, HBA.out, HSZ3.out, HB13.out⟩
            case round =>
              obtain ⟨j, out', row', rfl, hj, hi', hs', hmu', hq', hr', hb', hl', hba', hsz', hb1'⟩ := hrel
              have HSZ' := Lib.hid hsz'
              have HI' := Lib.hid hi'
              have HS' := Lib.hid hs'
              have HQ' := Lib.hid hq'
              have HR' := Lib.hid hr'
              have HB' := Lib.hid hb'
              have HB1' := Lib.hid hb1'
              have HL' := Lib.hid hl'
              have HBA' := Lib.hid hba'
              have HMU := Lib.hid hmu'
              clear hi' hs' hq' hr' hb' hl' hba' hmu' hsz' hb1' HQ3 HR3 HB3 HL HBA HS HB13 HSZ3
              by_cases hlt : j < (nx f.code pc).length
              · obtain ⟨t, et⟩ : ∃ t, (nx f.code pc)[j] = t := ⟨_, rfl⟩
                have htm : t ∈ nx f.code pc := et ▸ List.getElem_mem hlt
                have htL : t < f.code.length := nx_lt HC.out htm
                have htl : t < out'.length := by rw [HI'.out.len]; exact htL
                have hdrop : (nx f.code pc).drop j = t :: (nx f.code pc).drop (j + 1) := by rw [← et]; exact List.drop_eq_getElem_cons hlt
                obtain ⟨adB, eB, cB⟩ := HL'.out.at_ (k := j) (by rw [natsI_len]; exact hlt)
                rw [natsI_get _ _ hlt, et] at cB
                subst eB
                have hs' := HS'.out
                rw [hdrop] at hs'
                have hnew := hstep_cons_new (h := hh) (ts := (nx f.code pc).drop (j + 1)) (row := row') htl
                have hsame := hstep_cons_same (h := hh) (ts := (nx f.code pc).drop (j + 1)) (row := row') htl hh1
                have hdif := hstep_cons_bad (h := hh) (ts := (nx f.code pc).drop (j + 1)) (row := row') htl
                have hsnd := HI'.out.sound t htl
                have hmark := fun h8 => HI'.out.mark (v := hh) HRC.out htm htl hh0 h8
                have huns := unsetH_set (h := hh) htl
                have c5 := ints_cell HR'.out htl
                have f5 := HR'.out.free t
                have hcB : ∀ w5, ReadsI w5 (some adB) (natsI (nx f.code pc)) → w5.cell? (adB.add j) = some (.int .i64 t) := fun w5 h5 => by
                  obtain ⟨adB', eB', cB'⟩ := h5.at_ (k := j) (by rw [natsI_len]; exact hlt)
                  cases eB'
                  rw [natsI_get _ _ hlt, et] at cB'
                  exact cB'
                obtain ⟨ot, hot⟩ : ∃ ot, out'[t] = ot := ⟨_, rfl⟩
                rw [hot] at hnew hsame hdif hsnd huns c5
                rw [hs'] at hnew hsame hdif
                have HNEW := Lib.hid hnew
                have HSAME := Lib.hid hsame
                have HDIF := Lib.hid hdif
                have HUNS := Lib.hid huns
                have HMARK := Lib.hid hmark
                have HSND := Lib.hid hsnd
                have HCB := Lib.hid hcB
                clear hs' hdrop et htm hnew hsame hdif hsnd hmark huns hot hcB
                by_cases e1 : ot = -1
                · have d5 : decide (ot < 0) = true := by simp; omega
                  have HN2 := Lib.hid (HNEW.out e1)
                  have kc : Chg (fun k => k = g) wr (wr.setCell ⟨g, t, none⟩ (.int .i64 hh)) := Chg.put (S := fun k => k = g) (Chg.refl _ wr) (a := ⟨g, t, none⟩) rfl _
                  have hq5 := HQ'.out
                  have hqlo := hq5.lo
                  obtain ⟨ao5, cap5, rfl, _, _⟩ := hq5.shape
                  have hqn : ∀ k, (Value.slice ao5 row'.length cap5).ownBlock = some k → ¬ k = g := fun k hk => by have := hqlo k hk; omega
                  have bk := below_alloc (Below.refl (wr.setCell ⟨g, t, none⟩ (.int .i64 hh)).heap.size _) (.cells #[.int .i64 t] 3)
                  have R5 := Lib.hid ((ints_put HR'.out t hh).below bk)
                  have Q5 := Lib.hid ((hq5.chg kc hqn).below bk)
                  have hL5' := (HL'.out.chg kc (fun a e => (HBA'.out a e).2))
                  have cB2 := HCB.out _ hL5'
                  have L5 := Lib.hid (hL5'.below bk)
                  have hz5 : (wr.setCell ⟨g, t, none⟩ (.int .i64 hh)).heap.size = wr.heap.size := by simp
                  have B5 := Lib.hid (below_alloc (Below.setCell HB'.out (p := ⟨g, t, none⟩) (by simp; omega) (.int .i64 hh)) (.cells #[.int .i64 t] 3))
                  have B15 := Lib.hid (below_alloc (Below.setCell HB1'.out (p := ⟨g, t, none⟩) (by rw [HG.out]; simp) (.int .i64 hh)) (.cells #[.int .i64 t] 3))
                  have src : ReadsI ((wr.setCell ⟨g, t, none⟩ (.int .i64 hh)).alloc (.cells #[.int .i64 t] 3)) (some ⟨wr.heap.size, 0, none⟩) [(t : Int)] := by
                    have := RowAt.new 3 (intsV [(t : Int)]) (wr.setCell ⟨g, t, none⟩ (.int .i64 hh))
                    rw [hz5] at this
                    exact ints_reads (vs := []) (by rw [List.append_nil]; exact this) (by simp)
                  have SRC := Lib.hid src
                  have KC := Lib.hid kc
                  have HQN := Lib.hid hqn
                  have HZ := Lib.hid hz5
                  clear kc hq5 hqlo hqn bk src hz5 hL5'
                  go_upto_region 24 with fail
                  go_upto_region 25 with (first | (at_builtin; refine wpList_app_int _ rfl _ _ rfl w2.heap.size _ _ _ rfl Q5.out ?c1 _ _ _ [(t : Int)] rfl rfl SRC.out ?c2 ?_; rotate_left 2; intro v' w5 hG) | fail)
                  case c1 => have := HZ.out; have := HSZ'.out; simp; omega
                  case c2 =>
                    have := HMU.out
                    simp at hmu
                    omega
                  have hrow := hG.row
                  have hap := HQN.out
                  have hne : (Value.slice ao5 row'.length cap5).ownBlock ≠ some g := fun e => hap g e rfl
                  have hR5 := R5.out.grown hG.kept hne
                  have hB5 := B5.out.grown hG.kept (by have := HB'.out.size; simp; omega) (fun k hk => by have := Q5.out.lo k hk; have := B1.out.size; omega)
                  have hB15 := B15.out.grown hG.kept (by have := HB1'.out.size; simp; omega) (fun k hk => by have := Q5.out.lo k hk; have := HG.out; omega)
                  have hL5 := L5.out.grown hG.kept (fun a e => (HBA'.out a e).1)
                  have hA5 : ∀ a, some adB = some a → Apart v' a.block ∧ a.block ≠ g := fun a e => ⟨hG.apart (by
                    have h1 := HL'.out.lt_block (by rw [natsI_len]; omega) a e
                    simp; omega) (HBA'.out a e).1, (HBA'.out a e).2⟩
                  have hZ5 : w2.heap.size ≤ w5.heap.size := by have := HSZ'.out; have := hG.kept.size; simp at this; omega
                  have c6 := ints_cell hR5 (k := t) (by simpa using htl)
                  rw [List.getElem_set_self] at c6
                  have c7 := HCB.out _ hL5
                  have d7 : (hh != hh) = false := by simp
                  have H5 := Lib.hid (And.intro hrow (And.intro hR5 (And.intro hB5 (And.intro hL5 (And.intro hA5 (And.intro hZ5 hB15))))))
                  clear hG hrow hap hne hR5 hB5 hL5 hA5 hZ5 hB15
                  go_wp2_with fail
                  go_roundw
                  case rel => exact ⟨j + 1, out'.set t hh, row' ++ [t], by go_num, by omega, HMARK.out (by omega), HN2.out.symm, by
                    have := HUNS.out e1 hh1
                    have := HMU.out
                    simp; omega, by
                    have := H5.out.1
                    rw [show natsI row' ++ [(t : Int)] = natsI (row' ++ [t]) by simp [natsI]] at this
                    rw [List.length_append]
                    exact this, H5.out.2.1, H5.out.2.2.1, H5.out.2.2.2.1, H5.out.2.2.2.2.1, H5.out.2.2.2.2.2.1, H5.out.2.2.2.2.2.2⟩
                  case measure => simp only [intOf]; omega
                · have d5 : decide (ot < 0) = false := by have := HSND.out e1; simp; omega
                  by_cases e2 : ot = hh
                  · have d6 : (ot != hh) = false := by simpa using e2
                    have HN2 := Lib.hid (HSAME.out e2)
                    go_wp2_with fail
                    go_roundw
                    case rel => exact ⟨j + 1, out', row', by go_num, by omega, HI'.out, HN2.out.symm, HMU.out, HQ'.out, HR'.out, HB'.out, HL'.out, HBA'.out, HSZ'.out, HB1'.out⟩
                    case measure => simp only [intOf]; omega
                  · have d6 : (ot != hh) = true := by simpa using e2
                    have HN2 := Lib.hid (HDIF.out e1 e2)
                    go_wp2_with fail
                    go_ret3
                    rw [HRes.out, ← HW.out, HST.out, HN2.out]
                    exact ⟨_, rfl, ORow.nil _ _ _ _, HB'.out⟩
              · obtain rfl : j = (nx f.code pc).length := by omega
                have hs' := HS'.out
                rw [List.drop_length] at hs'
                have hst := HST.out
                rw [← hs'] at hst
                have HW2 := Lib.hid (hst.symm.trans HW.out)
                clear hs' hst
                go_wp2_with fail
                go_roundg m'
                case measure => omega
                case rel => exact ⟨out', row', HI'.out, HW2.out, by have := HMU.out; simp at hmu; omega, by omega, HQ'.out, HR'.out, HB'.out, HB1'.out, HSZ'.out⟩
end Go.Proofs.YtjghibdlmmjobaaGreatDoor

namespace Go.Proofs.YtjghibdlmmjobaaGreatDoor
open Go.RowKit

theorem fnAt_of {w w1 : World} {A : Option Addr} {fs : List Fn} (h : ReadsF w A fs) (hb : Below w.heap.size w w1) {k : Nat} (hk : k < fs.length) : ∃ ad : Addr, A = some ad ∧ ∃ Ac c, FnAt w1 (ad.add (k * 3)) fs[k] Ac c := by
  obtain ⟨ad, e, c0, c1, Ac, c, c2, hr⟩ := h.at_ hb hk
  exact ⟨ad, e, Ac, c, c0, c1, c2, hr⟩
theorem heightsOf_no {p : List Fn} {fn : Int} (h : ¬ (packs p = true ∧ 0 ≤ fn ∧ fn < p.length)) : heightsOf p fn = ([], 0, 500) := by
  unfold heightsOf
  by_cases h1 : packs p = true ∧ 0 ≤ fn
  · rw [if_pos h1]
    have : p[fn.toNat]? = none := List.getElem?_eq_none (Nat.not_lt.1 fun h3 => h ⟨h1.1, h1.2, by omega⟩)
    rw [this]
  · rw [if_neg h1]
theorem heightsOf_yes {p : List Fn} {k : Nat} (h : packs p = true) (hk : k < p.length) : heightsOf p k = heightsF p p[k] := by
  unfold heightsOf
  rw [if_pos ⟨h, by omega⟩, Int.toNat_natCast, List.getElem?_eq_getElem hk]
theorem heightsF_walk {p : List Fn} {f : Fn} (h : plainOf p f = none) : heightsF p f = walkR (hwalkOf p f.code) := by
  unfold heightsF walkR
  rw [h]
  cases hwalkOf p f.code <;> rfl
theorem hwalk_len {p : List Fn} {code : List Ins} : ∀ {n : Nat} {out : List Int} {row : List Nat} {o : List Int}, hwalk p code n out row = .inr o → o.length = out.length
  | 0, out, row, o, e => by cases e; rfl
  | n + 1, out, [], o, e => by cases e; rfl
  | n + 1, out, pc :: row, o, e => by
    rw [hwalk] at e
    split at e
    · split at e
      · cases e
      · split at e
        · cases e
        · rename_i s hs
          rw [hwalk_len e, hstep_len hs]
    · cases e; rfl
theorem hwalkOf_len {p : List Fn} {code : List Ins} {o : List Int} (h : hwalkOf p code = .inr o) : o.length = code.length := by
  rw [hwalk_len h]; simp [hstart]
set_option maxRecDepth 100000 in
set_option maxHeartbeats 4000000 in
theorem heightsV_any (p : List Fn) (Ap : Option Addr) (cp : Nat) (fn : Int) (w : World) (hl : Laid w) (hr : ReadsF w Ap p) :
    Calls Tryz.prog 165 #[.agg #[.slice Ap p.length cp], .int .i64 fn] w (HeightsE (heightsOf p fn) w) := by
  have b1 : Below w.heap.size w (w.alloc (.cells #[.slice Ap p.length cp] 24)) := below_alloc (Below.refl _ _) _
  have hP1 : (w.alloc (.cells #[.slice Ap p.length cp] 24)).cell? ⟨w.heap.size, 0, none⟩ = some (.slice Ap p.length cp) := (blk_cell (blk_new w _) 0).trans rfl
  have HM := Lib.hid (packMay_any ⟨w.heap.size, 0, none⟩ Ap cp p _ hP1 (hr.below b1))
  have hn : p.length ≤ 9223372036854775807 := hr.1
  have HL := Lib.hid hl
  have HRF := Lib.hid hr
  have HB1 := Lib.hid b1
  have HP := Lib.hid hP1
  clear hl hr b1 hP1
  by_cases hok : packs p = true ∧ 0 ≤ fn ∧ fn < p.length
  · obtain ⟨hp, h0, hlt⟩ := hok
    obtain ⟨k, rfl⟩ := Int.eq_ofNat_of_zero_le h0
    have hk : k < p.length := by simpa using hlt
    have he := heightsOf_yes hp hk
    have d1 : decide ((k : Int) < 0) = false := by simp
    have d2 : decide (p.length ≤ k) = false := by simpa using hk
    have hm := (fnMay_of (packs_fn hp hk)).2.2.2.2
    have HPK := Lib.hid hp
    have HE := Lib.hid he
    have HC := Lib.hid hm
    rw [hp] at HM
    clear he hp hm h0 hlt
    go_enter Tryz.func165, Tryz.ntmps165
    go_wp2_with fail
    refine HM.out.mono ?_
    rintro e w2 ⟨rfl, hB⟩
    have B2 := Lib.hid (below_trans HB1.out hB)
    obtain ⟨ad, eA, Ac, cc, hF⟩ := fnAt_of HRF.out B2.out hk
    subst eA
    have c0 := (hB.cell (World.block_lt_of_cell? _ _ HP.out)).trans HP.out
    have HP2 := Lib.hid c0
    have k0 := hF.c0
    have k1 := hF.c1
    have k2 := hF.c2
    have HF := Lib.hid hF
    have HRE := Lib.hid (reached_any p[k] Ac cc w2 hF.r HC.out)
    unfold fnV at HRE
    clear hB hF HM
    go_wp2_with fail
    refine HRE.out.mono ?_
    rintro e w3 ⟨g, rfl, hg, hlo, hB3⟩
    rw [← reachL_eq HC.out] at hg
    have hz : (reachB p[k].code).length = p[k].code.length := by rw [← reachL_eq HC.out]; exact reachL_len HC.out
    rw [hz]
    have B3 := Lib.hid (below_trans B2.out hB3)
    have HP3 := Lib.hid ((hB3.cell (World.block_lt_of_cell? _ _ HP2.out)).trans HP2.out)
    have HF3 := Lib.hid (HF.out.below hB3)
    have HPL := Lib.hid (plain_any ⟨w.heap.size, 0, none⟩ (ad.add (k * 3)) p _ cp p[k] Ac cc g w3 HP3.out HF3.out HC.out hg)
    clear hg hlo hB3 hz k0 k1 k2 c0 HRE
    cases hpl : plainOf p p[k] with
    | some er =>
      rw [hpl] at HPL
      have HPL2 := Lib.hid (heightsF_range hpl)
      clear hpl
      go_wp2_with fail
      refine HPL.out.mono ?_
      rintro e w4 ⟨v, rfl, ⟨m, rfl, m1, m2⟩, hB4⟩
      have B4 := Lib.hid (below_trans B3.out hB4)
      have HT := Lib.hid (told_any _ er.1 er.2 w4 (HL.out.below B4.out) (.inr ⟨m, rfl, m1, m2⟩))
      clear m1 m2 hB4
      go_wp2_with fail
      refine HT.out.mono ?_
      rintro e w5 ⟨rfl, hB5⟩
      have B5 := Lib.hid (below_trans B4.out hB5)
      clear hB5
      go_wp2_with fail
      go_ret3
      rw [HE.out, HPL2.out]
      exact ⟨_, rfl, ORow.nil _ _ _ _, B5.out⟩
    | none =>
      rw [hpl] at HPL
      have HPL2 := Lib.hid (heightsF_walk hpl)
      have HPL3 := Lib.hid hpl
      clear hpl
      go_wp2_with fail
      refine HPL.out.mono ?_
      rintro e w4 ⟨v, rfl, hv, hB4⟩
      have hv' : v = .nilIface := hv
      subst hv'
      have B4 := Lib.hid (below_trans B3.out hB4)
      have HP4 := Lib.hid ((hB4.cell (World.block_lt_of_cell? _ _ HP3.out)).trans HP3.out)
      have HH := Lib.hid (heights_any ⟨w.heap.size, 0, none⟩ (ad.add (k * 3)) p _ cp p[k] Ac cc w4 HP4.out (HRF.out.below B4.out) (HF3.out.below hB4) HPK.out HC.out HPL3.out)
      clear hv hB4
      cases hR : hwalkOf p p[k].code with
      | inl pc =>
        rw [hR] at HH HPL2
        clear hR
        go_wp2_with fail
        refine HH.out.mono ?_
        rintro e w5 ⟨v, rfl, ⟨m, rfl, m1, m2⟩, hB5⟩
        have B5 := Lib.hid (below_trans B4.out hB5)
        have HT := Lib.hid (told_any _ pc 502 w5 (HL.out.below B5.out) (.inr ⟨m, rfl, m1, m2⟩))
        clear m1 m2 hB5
        go_wp2_with fail
        refine HT.out.mono ?_
        rintro e w6 ⟨rfl, hB6⟩
        have B6 := Lib.hid (below_trans B5.out hB6)
        clear hB6
        go_wp2_with fail
        go_ret3
        rw [HE.out, HPL2.out]
        exact ⟨_, rfl, ORow.nil _ _ _ _, B6.out⟩
      | inr out =>
        rw [hR] at HH HPL2
        have HOL := Lib.hid (hwalkOf_len hR)
        clear hR
        go_wp2_with fail
        refine HH.out.mono ?_
        rintro e w5 ⟨g5, rfl, hg5, hlo5, hB5⟩
        have B5 := Lib.hid (below_trans B4.out hB5)
        have HT := Lib.hid (told_any .nilIface 0 0 w5 (HL.out.below B5.out) (.inl ⟨rfl, rfl, rfl⟩))
        have HG := Lib.hid hg5
        have hlo6 : w.heap.size ≤ g5 := Nat.le_trans B4.out.size hlo5
        clear hB5 hg5 hlo5
        go_wp2_with fail
        refine HT.out.mono ?_
        rintro e w6 ⟨rfl, hB6⟩
        have B6 := Lib.hid (below_trans B5.out hB6)
        have HG6 := Lib.hid (HG.out.below hB6)
        clear hB6
        go_wp2_with fail
        go_ret3
        rw [HE.out, HPL2.out]
        exact ⟨_, rfl, ORow.of_row HG6.out hlo6 (by rw [intsV_len, Nat.mul_one]; rfl) (by have h64 := (codeMay_len HC.out).2; rw [← HOL.out] at h64; unfold maxLen; omega), B6.out⟩
  · have he := heightsOf_no hok
    have HE := Lib.hid he
    clear he
    cases hp : packs p with
    | false =>
      rw [hp] at HM
      clear hp
      go_enter Tryz.func165, Tryz.ntmps165
      go_wp2_with fail
      refine HM.out.mono ?_
      rintro e w2 ⟨rfl, hB⟩
      have B2 := Lib.hid (below_trans HB1.out hB)
      clear hB
      go_wp2_with fail
      go_ret3
      rw [HE.out]
      exact ⟨_, rfl, ORow.nil _ _ _ _, B2.out⟩
    | true =>
      rw [hp] at HM
      have c0 := HP.out
      by_cases h0 : fn < 0
      · have d1 : decide (fn < 0) = true := by simpa using h0
        clear hp
        go_enter Tryz.func165, Tryz.ntmps165
        go_wp2_with fail
        refine HM.out.mono ?_
        rintro e w2 ⟨rfl, hB⟩
        have B2 := Lib.hid (below_trans HB1.out hB)
        clear hB
        go_wp2_with fail
        go_ret3
        rw [HE.out]
        exact ⟨_, rfl, ORow.nil _ _ _ _, B2.out⟩
      · have d1 : decide (fn < 0) = false := by simpa using h0
        have d2 : decide ((p.length : Int) ≤ fn) = true := by
          have : ¬ fn < p.length := fun h3 => hok ⟨hp, by omega, h3⟩
          simp; omega
        clear hp
        go_enter Tryz.func165, Tryz.ntmps165
        go_wp2_with fail
        refine HM.out.mono ?_
        rintro e w2 ⟨rfl, hB⟩
        have B2 := Lib.hid (below_trans HB1.out hB)
        have c2 := (hB.cell (World.block_lt_of_cell? _ _ HP.out)).trans HP.out
        clear hB c0
        go_wp2_with fail
        go_ret3
        rw [HE.out]
        exact ⟨_, rfl, ORow.nil _ _ _ _, B2.out⟩
end Go.Proofs.YtjghibdlmmjobaaGreatDoor

namespace Go.Proofs.YtjghibdlmmjobaaGreatDoor
open Go.RowKit

set_option maxRecDepth 100000 in
set_option maxHeartbeats 4000000 in
theorem rheights_any (p : List Fn) (Ap : Option Addr) (cp : Nat) (fn : Int) (w : World) (hr : ReadsF w Ap p) :
    Calls Tryz.prog 119 #[.agg #[.slice Ap p.length cp], .int .i64 fn] w (HeightsE (heightsOf p fn) w) := by
  have b1 : Below w.heap.size w (w.alloc (.cells #[.slice Ap p.length cp] 24)) := below_alloc (Below.refl _ _) _
  have hP1 : (w.alloc (.cells #[.slice Ap p.length cp] 24)).cell? ⟨w.heap.size, 0, none⟩ = some (.slice Ap p.length cp) := (blk_cell (blk_new w _) 0).trans rfl
  have HM := Lib.hid (rpacks_any p Ap cp _ (hr.below b1))
  have hn : p.length ≤ 9223372036854775807 := hr.1
  have HRF := Lib.hid hr
  have HB1 := Lib.hid b1
  have HP := Lib.hid hP1
  clear hr b1 hP1
  by_cases hok : packs p = true ∧ 0 ≤ fn ∧ fn < p.length
  · obtain ⟨hp, h0, hlt⟩ := hok
    obtain ⟨k, rfl⟩ := Int.eq_ofNat_of_zero_le h0
    have hk : k < p.length := by simpa using hlt
    have he := heightsOf_yes hp hk
    have d1 : decide ((k : Int) < 0) = false := by simp
    have d2 : decide (p.length ≤ k) = false := by simpa using hk
    have hm := (fnMay_of (packs_fn hp hk)).2.2.2.2
    obtain ⟨h1, h64⟩ := codeMay_len hm
    have hlr := reachL_len hm
    have HPK := Lib.hid hp
    have HE := Lib.hid he
    have HC := Lib.hid hm
    have HLR := Lib.hid hlr
    rw [hp] at HM
    clear he hp hm h0 hlt hlr
    go_enter Tryz.func119, Tryz.ntmps119
    go_wp2_with fail
    refine HM.out.mono ?_
    rintro e w2 ⟨rfl, hB⟩
    have B2 := Lib.hid (below_trans HB1.out hB)
    obtain ⟨ad, eA, Ac, cc, hF⟩ := fnAt_of HRF.out B2.out hk
    subst eA
    have c0 := (hB.cell (World.block_lt_of_cell? _ _ HP.out)).trans HP.out
    have k0 := hF.c0
    have k1 := hF.c1
    have k2 := hF.c2
    have b3 : Below w2.heap.size w2 (w2.alloc (.cells #[.int .i64 p[k].args, .int .i64 p[k].locals, .slice Ac p[k].code.length cc] 84)) := below_alloc (Below.refl _ _) _
    have hF3 := fnAt_new p[k] Ac cc w2 hF.r
    have HRE := Lib.hid (rreached_any p[k] Ac cc _ hF3.r HC.out)
    have HP2 := Lib.hid ((b3.cell (World.block_lt_of_cell? _ _ c0)).trans c0)
    have HF3 := Lib.hid hF3
    have B3 := Lib.hid (below_trans B2.out b3)
    unfold fnV at HRE
    clear hB hF hF3 b3 HM
    go_wp2_with fail
    refine HRE.out.mono ?_
    rintro e w3 ⟨g, rfl, hg, hlo, hB3⟩
    rw [← reachL_eq HC.out] at hg
    have hz : (reachB p[k].code).length = p[k].code.length := by rw [← reachL_eq HC.out]; exact reachL_len HC.out
    rw [hz]
    have B4 := Lib.hid (below_trans B3.out hB3)
    have HP4 := Lib.hid ((hB3.cell (World.block_lt_of_cell? _ _ HP2.out)).trans HP2.out)
    have HF4 := Lib.hid (HF3.out.below hB3)
    have HG := Lib.hid hg
    clear hg hlo hB3 hz k0 k1 k2 c0 HRE
    go_wp2_with fail
    go_loopg [10] (p[k].code.length) (fun m i wr => ∃ j : Nat, j + m = p[k].code.length ∧ i = .int .i64 j ∧ (∀ x, x < j → badAt p p[k] x = false) ∧ Below w3.heap.size w3 wr)
    case atStart => exact ⟨0, by omega, rfl, fun _ h => absurd h (Nat.not_lt_zero _), Below.refl _ _⟩
    case round =>
      obtain ⟨j, hj, rfl, hv, hB⟩ := hrel
      have HV := Lib.hid hv
      have HB := Lib.hid hB
      clear hv hB
      by_cases hlt : j < p[k].code.length
      · have hF5 := HF4.out.below HB.out
        obtain ⟨adc, rfl, i0, i1⟩ := hF5.r.at_ (Below.refl _ _) hlt
        have q0 := hF5.c0
        have q1 := hF5.c1
        have q2 := hF5.c2
        have qP := (HB.out.cell (World.block_lt_of_cell? _ _ HP4.out)).trans HP4.out
        have hlr : j < (reachL p[k].code).length := by rw [HLR.out]; exact hlt
        have cm := bools_cell (HG.out.below HB.out) hlr
        have HF5 := Lib.hid hF5
        clear hF5
        cases hb : (reachL p[k].code)[j] with
        | false =>
          rw [hb] at cm
          have hbad : badAt p p[k] j = false := by unfold badAt; rw [List.getElem?_eq_getElem hlr, hb]; rfl
          have HX := Lib.hid hbad
          clear hbad hb hlr
          go_upto_region 8 with fail
          go_quiet (fail)
          go_wp2_with fail
          go_roundg (p[k].code.length - (j + 1))
          case measure => omega
          case rel => exact ⟨j + 1, by omega, by go_num, fun x hx => by
            rcases Nat.lt_or_ge x j with h2 | h2
            · exact HV.out x h2
            · obtain rfl : x = j := by omega
              exact HX.out, below_drew HB.out _⟩
        | true =>
          rw [hb] at cm
          have hbad : badAt p p[k] j = !rangedB p p[k] p[k].code[j] := by unfold badAt; rw [List.getElem?_eq_getElem hlr, hb, List.getElem?_eq_getElem hlt]; rfl
          have HRG := Lib.hid (ranged_any p (some ad) cp p[k] (some adc) cc p[k].code[j])
          unfold fnV Ins.v at HRG
          have HX := Lib.hid hbad
          clear hbad hb hlr
          cases hr : rangedB p p[k] p[k].code[j] with
          | true =>
            rw [hr] at HX HRG
            clear hr
            go_upto_region 8 with fail
            go_still_tail 12, (by kernel_rfl)
            go_wp2_with fail
            refine (HRG.out _).mono ?_
            rintro e wa ⟨rfl, ba⟩
            have TB2 := Lib.hid (below_trans (Below.refl wr.heap.size wr).drew ba)
            clear ba
            go_wp2_with fail
            go_roundg (p[k].code.length - (j + 1))
            case measure => omega
            case rel => exact ⟨j + 1, by omega, by go_num, fun x hx => by
              rcases Nat.lt_or_ge x j with h2 | h2
              · exact HV.out x h2
              · obtain rfl : x = j := by omega
                exact HX.out, below_trans HB.out TB2.out⟩
          | false =>
            rw [hr] at HX HRG
            clear hr
            go_upto_region 8 with fail
            go_still_tail 12, (by kernel_rfl)
            go_wp2_with fail
            refine (HRG.out _).mono ?_
            rintro e wa ⟨rfl, ba⟩
            have TB2 := Lib.hid (below_trans (Below.refl wr.heap.size wr).drew ba)
            clear ba
            go_wp2_with fail
            go_ret3
            have hp : plainOf p p[k] = some ((j : Int), 501) := by unfold plainOf; rw [find_range hlt HX.out HV.out]
            rw [HE.out, heightsF_range hp]
            exact ⟨_, rfl, ORow.nil _ _ _ _, below_trans B4.out (below_trans HB.out TB2.out)⟩
      · obtain rfl : j = p[k].code.length := by omega
        have hnone : (List.range p[k].code.length).find? (badAt p p[k]) = none := find_none HV.out
        obtain ⟨n, hnn⟩ : ∃ n, p[k].code.length = n + 1 := ⟨p[k].code.length - 1, by omega⟩
        have hln : n < p[k].code.length := by omega
        have hF5 := HF4.out.below HB.out
        obtain ⟨adc, rfl, i0, i1⟩ := hF5.r.at_ (Below.refl _ _) hln
        have q0 := hF5.c0
        have q1 := hF5.c1
        have q2 := hF5.c2
        have qP := (HB.out.cell (World.block_lt_of_cell? _ _ HP4.out)).trans HP4.out
        have hlr : n < (reachL p[k].code).length := by rw [HLR.out]; exact hln
        have cm := bools_cell (HG.out.below HB.out) hlr
        have hend : endBad p[k] = ((reachL p[k].code)[n] && (decide (p[k].code[n].kind ≠ 12) && decide (p[k].code[n].kind ≠ 16))) := by
          unfold endBad
          rw [show p[k].code.length - 1 = n by omega, List.getElem?_eq_getElem hlr, List.getElem?_eq_getElem hln]
          cases (reachL p[k].code)[n] <;> simp
        have hsub : (p[k].code.length : Int) - 1 = n := by omega
        have hpl : plainOf p p[k] = if endBad p[k] then some ((p[k].code.length : Int) - 1, 503) else none := by unfold plainOf; rw [hnone]
        rw [hend, hsub] at hpl
        have HPL := Lib.hid hpl
        have HF5 := Lib.hid hF5
        have hw : IntKind.i64.wrap ((p[k].code.length : Int) - 1) = n := by rw [hsub]; exact IntWalk.i64_in _ (by omega)
        have hnl : n + 1 ≤ p[k].code.length := by omega
        clear hnone hend hpl hF5 hsub hnn
        generalize (reachL p[k].code)[n] = b at cm HPL
        generalize p[k].code[n].kind = kd at i0 HPL
        by_cases hbad : b = true ∧ kd ≠ 12 ∧ kd ≠ 16
        · obtain ⟨rfl, e12, e16⟩ := hbad
          have d12 : (kd != 12) = true := by simpa using e12
          have d16 : (kd != 16) = true := by simpa using e16
          go_wp2_with fail
          go_ret3
          have hp : plainOf p p[k] = some ((n : Int), 503) := by rw [HPL.out, if_pos (by simp [e12, e16])]
          rw [HE.out, heightsF_range hp]
          exact ⟨_, rfl, ORow.nil _ _ _ _, below_trans B4.out HB.out⟩
        · have hp : plainOf p p[k] = none := by rw [HPL.out, if_neg (by simp; intro a1 a2; exact Classical.byContradiction fun a3 => hbad ⟨a1, a2, a3⟩)]
          have HW := Lib.hid (rwalk_any p (some ad) cp p[k] (some adc) cc wr (HRF.out.below (below_trans B4.out HB.out)) HF5.out.r HPK.out HC.out hp)
          have hrr := HE.out.trans (heightsF_walk hp)
          clear hp
          unfold fnV at HW
          obtain ⟨r, hr⟩ : ∃ r, walkR (hwalkOf p p[k].code) = r := ⟨_, rfl⟩
          rw [hr] at HW hrr
          have HRR := Lib.hid hrr
          clear hr hrr
          have done_ : ∀ e w', HeightsE r wr e w' → HeightsE (heightsOf p k) w e w' := fun e w' ⟨v, h1, h2, h3⟩ => by
            rw [HRR.out]
            exact ⟨v, h1, h2.mono (Nat.le_trans B4.out.size HB.out.size), below_trans (below_trans B4.out HB.out) h3⟩
          have HD := Lib.hid done_
          clear done_
          cases b with
          | false =>
            go_wp2_with fail
            refine HW.out.mono ?_
            rintro e w5 hE
            have hE2 := HD.out _ _ hE
            obtain ⟨v, rfl, _, _⟩ := hE
            have HE2 := Lib.hid hE2
            clear hE2
            go_wp2_with fail
            go_ret3
            exact HE2.out
          | true =>
            by_cases e12 : kd = 12
            · subst e12
              go_wp2_with fail
              refine HW.out.mono ?_
              rintro e w5 hE
              have hE2 := HD.out _ _ hE
              obtain ⟨v, rfl, _, _⟩ := hE
              have HE2 := Lib.hid hE2
              clear hE2
              go_wp2_with fail
              go_ret3
              exact HE2.out
            · have d12 : (kd != 12) = true := by simpa using e12
              have e16 : kd = 16 := by
                rcases Decidable.em (kd = 16) with h | h
                · exact h
                · exact absurd ⟨rfl, e12, h⟩ hbad
              subst e16
              go_wp2_with fail
              refine HW.out.mono ?_
              rintro e w5 hE
              have hE2 := HD.out _ _ hE
              obtain ⟨v, rfl, _, _⟩ := hE
              have HE2 := Lib.hid hE2
              clear hE2
              go_wp2_with fail
              go_ret3
              exact HE2.out
  · have he := heightsOf_no hok
    have HE := Lib.hid he
    clear he
    cases hp : packs p with
    | false =>
      rw [hp] at HM
      clear hp
      go_enter Tryz.func119, Tryz.ntmps119
      go_wp2_with fail
      refine HM.out.mono ?_
      rintro e w2 ⟨rfl, hB⟩
      have B2 := Lib.hid (below_trans HB1.out hB)
      clear hB
      go_wp2_with fail
      go_ret3
      rw [HE.out]
      exact ⟨_, rfl, ORow.nil _ _ _ _, B2.out⟩
    | true =>
      rw [hp] at HM
      by_cases h0 : fn < 0
      · have d1 : decide (fn < 0) = true := by simpa using h0
        clear hp
        go_enter Tryz.func119, Tryz.ntmps119
        go_wp2_with fail
        refine HM.out.mono ?_
        rintro e w2 ⟨rfl, hB⟩
        have B2 := Lib.hid (below_trans HB1.out hB)
        clear hB
        go_wp2_with fail
        go_ret3
        rw [HE.out]
        exact ⟨_, rfl, ORow.nil _ _ _ _, B2.out⟩
      · have d1 : decide (fn < 0) = false := by simpa using h0
        have d2 : decide ((p.length : Int) ≤ fn) = true := by
          have : ¬ fn < p.length := fun h3 => hok ⟨hp, by omega, h3⟩
          simp; omega
        clear hp
        go_enter Tryz.func119, Tryz.ntmps119
        go_wp2_with fail
        refine HM.out.mono ?_
        rintro e w2 ⟨rfl, hB⟩
        have B2 := Lib.hid (below_trans HB1.out hB)
        have c2 := (hB.cell (World.block_lt_of_cell? _ _ HP.out)).trans HP.out
        clear hB
        go_wp2_with fail
        go_ret3
        rw [HE.out]
        exact ⟨_, rfl, ORow.nil _ _ _ _, B2.out⟩
end Go.Proofs.YtjghibdlmmjobaaGreatDoor
