/- 'verify.Heights' and the document's 'Heights' answer the same heights, 'verify.Program' and the document's 'Verify' the same error. Conditions: the program lies in memory as it is said; errors.errorType is laid. -/
import Derived.Test.YtpfgklkdldkajaaDoorRefWalk
namespace Go.Proofs.YtpfgklkdldkajaaDoor
open Go.RowKit

theorem fnAt_of {w w1 : World} {A : Option Addr} {fs : List Fn} (h : ReadsF w A fs) (hb : Below w.heap.size w w1) {k : Nat} (hk : k < fs.length) : ∃ ad : Addr, A = some ad ∧ ∃ Ac c, FnAt w1 (ad.add (k * 3)) fs[k] Ac c := by
  obtain ⟨ad, e, c0, c1, Ac, c, c2, hr⟩ := h.at_ hb hk
  exact ⟨ad, e, Ac, c, c0, c1, c2, hr⟩
theorem heightsOf_no {p : List Fn} {fn : Int} (h : ¬ (packs p = true ∧ 0 ≤ fn ∧ fn < p.length)) : heightsOf p fn = ([], 0, 500) := by
  unfold heightsOf
  by_cases h1 : packs p = true ∧ 0 ≤ fn
  · rw [if_pos h1]
    have : p[fn.toNat]? = none := List.getElem?_eq_none (Nat.not_lt.1 fun h3 => h ⟨h1.1, h1.2, by omega⟩)
    rw [this]
  · rw [if_neg h1]
theorem heightsOf_yes {p : List Fn} {k : Nat} (h : packs p = true) (hk : k < p.length) : heightsOf p k = heightsF p p[k] := by
  unfold heightsOf
  rw [if_pos ⟨h, by omega⟩, Int.toNat_natCast, List.getElem?_eq_getElem hk]
theorem heightsF_walk {p : List Fn} {f : Fn} (h : plainOf p f = none) : heightsF p f = walkR (hwalkOf p f.code) := by
  unfold heightsF walkR
  rw [h]
  cases hwalkOf p f.code <;> rfl
theorem hwalk_len {p : List Fn} {code : List Ins} : ∀ {n : Nat} {out : List Int} {row : List Nat} {o : List Int}, hwalk p code n out row = .inr o → o.length = out.length
  | 0, out, row, o, e => by cases e; rfl
  | n + 1, out, [], o, e => by cases e; rfl
  | n + 1, out, pc :: row, o, e => by
    rw [hwalk] at e
    split at e
    · split at e
      · cases e
      · split at e
        · cases e
        · rename_i s hs
          rw [hwalk_len e, hstep_len hs]
    · cases e; rfl
theorem hwalkOf_len {p : List Fn} {code : List Ins} {o : List Int} (h : hwalkOf p code = .inr o) : o.length = code.length := by
  rw [hwalk_len h]; simp [hstart]
set_option maxRecDepth 100000 in
set_option maxHeartbeats 4000000 in
theorem heightsV_any (p : List Fn) (Ap : Option Addr) (cp : Nat) (fn : Int) (w : World) (hl : Laid w) (hr : ReadsF w Ap p) :
    Calls Tryd.prog 14 #[.agg #[.slice Ap p.length cp], .int .i64 fn] w (HeightsE (heightsOf p fn) w) := by
  have b1 : Below w.heap.size w (w.alloc (.cells #[.slice Ap p.length cp] 24)) := below_alloc (Below.refl _ _) _
  have hP1 : (w.alloc (.cells #[.slice Ap p.length cp] 24)).cell? ⟨w.heap.size, 0, none⟩ = some (.slice Ap p.length cp) := (blk_cell (blk_new w _) 0).trans rfl
  have HM := Lib.hid (packMay_any ⟨w.heap.size, 0, none⟩ Ap cp p _ hP1 (hr.below b1))
  have hn : p.length ≤ 9223372036854775807 := hr.1
  have HL := Lib.hid hl
  have HRF := Lib.hid hr
  have HB1 := Lib.hid b1
  have HP := Lib.hid hP1
  clear hl hr b1 hP1
  by_cases hok : packs p = true ∧ 0 ≤ fn ∧ fn < p.length
  · obtain ⟨hp, h0, hlt⟩ := hok
    obtain ⟨k, rfl⟩ := Int.eq_ofNat_of_zero_le h0
    have hk : k < p.length := by simpa using hlt
    have he := heightsOf_yes hp hk
    have d1 : decide ((k : Int) < 0) = false := by simp
    have d2 : decide (p.length ≤ k) = false := by simpa using hk
    have hm := (fnMay_of (packs_fn hp hk)).2.2.2.2
    have HPK := Lib.hid hp
    have HE := Lib.hid he
    have HC := Lib.hid hm
    rw [hp] at HM
    clear he hp hm h0 hlt
    go_enter Tryd.func14, Tryd.ntmps14
    go_wp2_with fail
    refine HM.out.mono ?_
    rintro e w2 ⟨rfl, hB⟩
    have B2 := Lib.hid (below_trans HB1.out hB)
    obtain ⟨ad, eA, Ac, cc, hF⟩ := fnAt_of HRF.out B2.out hk
    subst eA
    have c0 := (hB.cell (World.block_lt_of_cell? _ _ HP.out)).trans HP.out
    have HP2 := Lib.hid c0
    have k0 := hF.c0
    have k1 := hF.c1
    have k2 := hF.c2
    have HF := Lib.hid hF
    have HRE := Lib.hid (reached_any p[k] Ac cc w2 hF.r HC.out)
    unfold fnV at HRE
    clear hB hF HM
    go_wp2_with fail
    refine HRE.out.mono ?_
    rintro e w3 ⟨g, rfl, hg, hlo, hB3⟩
    rw [← reachL_eq HC.out] at hg
    have hz : (reachB p[k].code).length = p[k].code.length := by rw [← reachL_eq HC.out]; exact reachL_len HC.out
    rw [hz]
    have B3 := Lib.hid (below_trans B2.out hB3)
    have HP3 := Lib.hid ((hB3.cell (World.block_lt_of_cell? _ _ HP2.out)).trans HP2.out)
    have HF3 := Lib.hid (HF.out.below hB3)
    have HPL := Lib.hid (plain_any ⟨w.heap.size, 0, none⟩ (ad.add (k * 3)) p _ cp p[k] Ac cc g w3 HP3.out HF3.out HC.out hg)
    clear hg hlo hB3 hz k0 k1 k2 c0 HRE
    cases hpl : plainOf p p[k] with
    | some er =>
      rw [hpl] at HPL
      have HPL2 := Lib.hid (heightsF_range hpl)
      clear hpl
      go_wp2_with fail
      refine HPL.out.mono ?_
      rintro e w4 ⟨v, rfl, ⟨m, rfl, m1, m2⟩, hB4⟩
      have B4 := Lib.hid (below_trans B3.out hB4)
      have HT := Lib.hid (told_any _ er.1 er.2 w4 (HL.out.below B4.out) (.inr ⟨m, rfl, m1, m2⟩))
      clear m1 m2 hB4
      go_wp2_with fail
      refine HT.out.mono ?_
      rintro e w5 ⟨rfl, hB5⟩
      have B5 := Lib.hid (below_trans B4.out hB5)
      clear hB5
      go_wp2_with fail
      go_ret3
      rw [HE.out, HPL2.out]
      exact ⟨_, rfl, ORow.nil _ _ _ _, B5.out⟩
    | none =>
      rw [hpl] at HPL
      have HPL2 := Lib.hid (heightsF_walk hpl)
      have HPL3 := Lib.hid hpl
      clear hpl
      go_wp2_with fail
      refine HPL.out.mono ?_
      rintro e w4 ⟨v, rfl, hv, hB4⟩
      have hv' : v = .nilIface := hv
      subst hv'
      have B4 := Lib.hid (below_trans B3.out hB4)
      have HP4 := Lib.hid ((hB4.cell (World.block_lt_of_cell? _ _ HP3.out)).trans HP3.out)
      have HH := Lib.hid (heights_any ⟨w.heap.size, 0, none⟩ (ad.add (k * 3)) p _ cp p[k] Ac cc w4 HP4.out (HRF.out.below B4.out) (HF3.out.below hB4) HPK.out HC.out HPL3.out)
      clear hv hB4
      cases hR : hwalkOf p p[k].code with
      | inl pc =>
        rw [hR] at HH HPL2
        clear hR
        go_wp2_with fail
        refine HH.out.mono ?_
        rintro e w5 ⟨v, rfl, ⟨m, rfl, m1, m2⟩, hB5⟩
        have B5 := Lib.hid (below_trans B4.out hB5)
        have HT := Lib.hid (told_any _ pc 502 w5 (HL.out.below B5.out) (.inr ⟨m, rfl, m1, m2⟩))
        clear m1 m2 hB5
        go_wp2_with fail
        refine HT.out.mono ?_
        rintro e w6 ⟨rfl, hB6⟩
        have B6 := Lib.hid (below_trans B5.out hB6)
        clear hB6
        go_wp2_with fail
        go_ret3
        rw [HE.out, HPL2.out]
        exact ⟨_, rfl, ORow.nil _ _ _ _, B6.out⟩
      | inr out =>
        rw [hR] at HH HPL2
        have HOL := Lib.hid (hwalkOf_len hR)
        clear hR
        go_wp2_with fail
        refine HH.out.mono ?_
        rintro e w5 ⟨g5, rfl, hg5, hlo5, hB5⟩
        have B5 := Lib.hid (below_trans B4.out hB5)
        have HT := Lib.hid (told_any .nilIface 0 0 w5 (HL.out.below B5.out) (.inl ⟨rfl, rfl, rfl⟩))
        have HG := Lib.hid hg5
        have hlo6 : w.heap.size ≤ g5 := Nat.le_trans B4.out.size hlo5
        clear hB5 hg5 hlo5
        go_wp2_with fail
        refine HT.out.mono ?_
        rintro e w6 ⟨rfl, hB6⟩
        have B6 := Lib.hid (below_trans B5.out hB6)
        have HG6 := Lib.hid (HG.out.below hB6)
        clear hB6
        go_wp2_with fail
        go_ret3
        rw [HE.out, HPL2.out]
        exact ⟨_, rfl, ORow.of_row HG6.out hlo6 (by rw [intsV_len, Nat.mul_one]; rfl) (by have h64 := (codeMay_len HC.out).2; rw [← HOL.out] at h64; unfold maxLen; omega), B6.out⟩
  · have he := heightsOf_no hok
    have HE := Lib.hid he
    clear he
    cases hp : packs p with
    | false =>
      rw [hp] at HM
      clear hp
      go_enter Tryd.func14, Tryd.ntmps14
      go_wp2_with fail
      refine HM.out.mono ?_
      rintro e w2 ⟨rfl, hB⟩
      have B2 := Lib.hid (below_trans HB1.out hB)
      clear hB
      go_wp2_with fail
      go_ret3
      rw [HE.out]
      exact ⟨_, rfl, ORow.nil _ _ _ _, B2.out⟩
    | true =>
      rw [hp] at HM
      have c0 := HP.out
      by_cases h0 : fn < 0
      · have d1 : decide (fn < 0) = true := by simpa using h0
        clear hp
        go_enter Tryd.func14, Tryd.ntmps14
        go_wp2_with fail
        refine HM.out.mono ?_
        rintro e w2 ⟨rfl, hB⟩
        have B2 := Lib.hid (below_trans HB1.out hB)
        clear hB
        go_wp2_with fail
        go_ret3
        rw [HE.out]
        exact ⟨_, rfl, ORow.nil _ _ _ _, B2.out⟩
      · have d1 : decide (fn < 0) = false := by simpa using h0
        have d2 : decide ((p.length : Int) ≤ fn) = true := by
          have : ¬ fn < p.length := fun h3 => hok ⟨hp, by omega, h3⟩
          simp; omega
        clear hp
        go_enter Tryd.func14, Tryd.ntmps14
        go_wp2_with fail
        refine HM.out.mono ?_
        rintro e w2 ⟨rfl, hB⟩
        have B2 := Lib.hid (below_trans HB1.out hB)
        have c2 := (hB.cell (World.block_lt_of_cell? _ _ HP.out)).trans HP.out
        clear hB c0
        go_wp2_with fail
        go_ret3
        rw [HE.out]
        exact ⟨_, rfl, ORow.nil _ _ _ _, B2.out⟩
end Go.Proofs.YtpfgklkdldkajaaDoor
