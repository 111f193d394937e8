/- The law VerifyMore, walked: a function more that nobody calls, or an instruction more that is never come to, turns no height. Conditions: the program lies in memory and is within the reach; errors.errorType is laid. -/
import Derived.Test.YtpfgklkdldkajaaDoorMoreLaw
import Derived.Test.YtpfgklkdldkajaaDoorAwakeV
import Derived.Test.YtpfgklkdldkajaaDoorCopyG
import Derived.Test.YtpfgklkdldkajaaDoorNums
import Derived.Test.YtpfgklkdldkajaaDoorFPush
import Derived.Test.YtpfgklkdldkajaaDoorLend
namespace Go.Proofs.YtpfgklkdldkajaaDoor
open Go.RowKit

theorem HeightsE.reads {r : List Int × Int × Int} {w w' : World} {e : Ending} (h : HeightsE r w e w') : ∃ A c, e = .returned (.tuple #[.slice A r.1.length c, .int .i64 r.2.1, .int .i64 r.2.2]) ∧ ORow w' w.heap.size 3 1 (.slice A r.1.length c) r.1.length (intsV r.1) ∧ Below w.heap.size w w' := by
  obtain ⟨v, rfl, h1, h2⟩ := h
  obtain ⟨A, c, rfl, _, _⟩ := h1.shape
  exact ⟨A, c, rfl, h1, h2⟩
theorem insV_app2 (xs ys : List Ins) : insV (xs ++ ys) = insV xs ++ insV ys := by simp [insV]
set_option maxRecDepth 100000 in
set_option maxHeartbeats 8000000 in
theorem moreLaw_yes (A : Option Addr) (c : Nat) (p : List Fn) (which : Int) (W : World) (hl : Laid W) (hr : ReadsF W A p) (hz : Fits p) :
    Calls Tryd.prog 3 #[.agg #[.slice A p.length c], .int .i64 which] W (Ret (.bool true) W) := by
  obtain ⟨w1, hw1⟩ : ∃ w1, W.alloc (.cells #[.slice A p.length c] 24) = w1 := ⟨_, rfl⟩
  have b1 : Below W.heap.size W w1 := hw1 ▸ below_alloc (Below.refl _ _) _
  have PP1 := Lib.hid (hw1 ▸ RowAt.new _ _ W : RowAt 24 W.heap.size [.slice A p.length c] w1)
  have hn := hr.1
  have HL := Lib.hid hl
  have HR := Lib.hid hr
  have HZ := Lib.hid hz
  have B1 := Lib.hid b1
  have HA := Lib.hid (awakeV_any w1 (hl.below b1))
  clear hl hr b1 hz
  go_enter Tryd.func3, Tryd.ntmps3
  go_wp2_with fail
  (with_reducible refine HA.out.mono ?_)
  rintro e w2 ⟨rfl, hB⟩
  have B2 := Lib.hid (below_trans B1.out hB)
  have PP2 := Lib.hid (PP1.out.below hB)
  have c0 := PP2.out.cell (k := 0) (by simp)
  simp only [List.getElem_cons_zero] at c0
  clear hB hw1 HA
  by_cases h1 : 1 ≤ p.length
  case neg =>
    have d1 : decide ((p.length : Int) < 1) = true := by simp; omega
    clear h1
    go_wp2_with fail
    go_ret
    exact ⟨rfl, B2.out⟩
  have d1 : decide ((p.length : Int) < 1) = false := by simp; omega
  by_cases h8 : p.length < 8
  case neg =>
    have d2 : decide ((8 : Int) ≤ p.length) = true := by simp; omega
    clear h8 h1
    go_wp2_with fail
    go_ret
    exact ⟨rfl, B2.out⟩
  have d2 : decide ((8 : Int) ≤ p.length) = false := by simp; omega
  have H1 := Lib.hid h1
  have H8 := Lib.hid h8
  clear h1 h8
  have H := Lib.hid (copyProgramG_any A c p w2 (HR.out.below B2.out) HZ.out)
  go_wp2_with fail
  (with_reducible refine H.out.mono ?_)
  rintro e w3 ⟨ao, cap, vss, rfl, hown, hB⟩
  obtain ⟨w4, hw4⟩ : ∃ w4, w3.alloc (.cells #[.slice ao p.length cap] 24) = w4 := ⟨_, rfl⟩
  have b34 : Below w3.heap.size w3 w4 := hw4 ▸ below_alloc (Below.refl _ _) _
  have q4 : RowAt 24 w3.heap.size [.slice ao p.length cap] w4 := hw4 ▸ RowAt.new _ _ w3
  have y4 : w4.heap.size = w3.heap.size + 1 := by rw [← hw4]; simp
  obtain ⟨w5, hw5⟩ : ∃ w5, w4.alloc (.cells #[.int .i64 0, .int .i64 1, .int .i64 16, .int .i64 0] 28) = w5 := ⟨_, rfl⟩
  have b45 : Below w4.heap.size w4 w5 := hw5 ▸ below_alloc (Below.refl _ _) _
  have y5 : w5.heap.size = w4.heap.size + 1 := by rw [← hw5]; simp
  have r5 : RowAt 28 w4.heap.size (insV [⟨0, 1⟩, ⟨16, 0⟩]) w5 := hw5 ▸ RowAt.new _ _ w4
  obtain ⟨w6, hw6⟩ : ∃ w6, w5.alloc (.cells #[.int .i64 0, .int .i64 0, .slice (some ⟨w4.heap.size, 0, none⟩) 2 2] 31) = w6 := ⟨_, rfl⟩
  have b56 : Below w5.heap.size w5 w6 := hw6 ▸ below_alloc (Below.refl _ _) _
  have r6 : RowAt 31 w5.heap.size [.int .i64 0, .int .i64 0, .slice (some ⟨w4.heap.size, 0, none⟩) 2 2] w6 := hw6 ▸ RowAt.new _ _ w5
  have b46 := below_trans b45 b56
  have b36 := below_trans b34 b46
  have B3 := Lib.hid (below_trans B2.out hB)
  have B36 := Lib.hid b36
  have HO6 := Lib.hid (OwnG.below hown b36)
  have HBD := Lib.hid (show Build w6 w4.heap.size [.slice (some ⟨w4.heap.size, 0, none⟩) 2 2] (KFn.rows moreF) from Build.below ⟨rfl, fun j hj hj' => by
    obtain rfl : j = 0 := by simpa using hj
    exact (.inl (ORow.of_row (n := 2) (sz := 2) r5 (Nat.le_refl _) rfl (by decide)) : CRow _ _ _ _ _ 2 _), fun j hj j' hj' hne => by simp at hj hj'; omega⟩ b56)
  have HSRC := Lib.hid (func_src (f := moreF) r6)
  have HVIN := Lib.hid (OwnG.lo hown)
  have Q6 := Lib.hid (q4.below b46)
  have hrow6 := HO6.out.row
  have HROW := Lib.hid hrow6
  have PP6 := Lib.hid ((PP2.out.below hB).below b36)
  have Y4 := Lib.hid y4
  have LE6 := Lib.hid (show w4.heap.size ≤ w6.heap.size from b46.size)
  have LB := Lib.hid (show w2.heap.size ≤ w3.heap.size from hB.size)
  have HBC := Lib.hid hB
  have c4 := q4.cell (k := 0) (by simp)
  simp only [List.getElem_cons_zero] at c4
  obtain ⟨i0, hi0, hz0, hs0, hb0⟩ := info_parts info_func
  have HI0 := Lib.hid hi0
  have HZ0 := Lib.hid hz0
  have HS0 := Lib.hid hs0
  have HBY := Lib.hid hb0
  have hfz := HZ.out.1
  clear hi0 hz0 hs0 hb0 hown hB b34 q4 y4 b45 y5 r5 b56 r6 b46 b36 hrow6 c0 H
  go_wp2_with (first | (at_builtin; refine wpList_append_crow _ rfl _ _ 22 22 31 rfl i0 _ 3 40 Tryd.underlying22 HI0.out HZ0.out HS0.out HBY.out rfl w2.heap.size _ p.length _ rfl HROW.out ?c1 _ 1 _ rfl HSRC.out ?c2 ?c3 ?_; rotate_left 3; intro v' w7 hG; obtain ⟨ao', cap', hv', hle', hmx'⟩ := hG.row.shape; subst hv'; have hS := Q6.out.chg hG.chg (fun e => by have := (HVIN.out (.slice ao p.length cap) (by simp) _ e).2; omega); have T1 := row_cell hS; have T2 := hS.free 0; have HG := Lib.hid hG; have HT := Lib.hid hS; clear hG hS) | fail)
  case c1 => have := LE6.out; have := Y4.out; have := LB.out; omega
  case c2 => omega
  case c3 => unfold maxLen; omega
  have hG := HG.out
  have hgrow := OwnG.grow_build (N := w4.heap.size) (x := moreF) (us := [.slice (some ⟨w4.heap.size, 0, none⟩) 2 2]) HO6.out hG (fun u hu b hb => by have := (HVIN.out u hu b hb).2; have := Y4.out; omega) HBD.out (by have := Y4.out; have := LB.out; omega)
  have lo7 : ∀ u ∈ (Value.slice ao' (p.length + 1) cap') :: (vss ++ [[Value.slice (some ⟨w4.heap.size, 0, none⟩) 2 2]]).flatten, ∀ b, ob u = some b → ¬ b = w3.heap.size := fun u hu b hb e => by
    rcases List.mem_cons.1 hu with rfl | hu
    · rcases hG.at_ b hb with h | h
      · have := (HVIN.out (.slice ao p.length cap) (by simp) b h).2; omega
      · have := LE6.out; have := Y4.out; omega
    · rw [List.flatten_append] at hu
      rcases List.mem_append.1 hu with hu | hu
      · have := (HVIN.out u (List.mem_cons_of_mem _ hu) b hb).2; omega
      · obtain rfl : u = .slice (some ⟨w4.heap.size, 0, none⟩) 2 2 := by simpa using hu
        have := ob_new hb; have := Y4.out; omega
  obtain ⟨w8, hw8⟩ : ∃ w8, w7.setCell ⟨w3.heap.size, 0, none⟩ (.slice ao' (p.length + 1) cap') = w8 := ⟨_, rfl⟩
  have kc : Chg (fun b => b = w3.heap.size) w7 w8 := hw8 ▸ Chg.put (S := fun b => b = w3.heap.size) (Chg.refl _ w7) (a := ⟨w3.heap.size, 0, none⟩) rfl _
  have O8 := Lib.hid (show OwnP w8 w2.heap.size (.slice ao' (p.length + 1) cap') (moreP p) (vss ++ [[Value.slice (some ⟨w4.heap.size, 0, none⟩) 2 2]]) from OwnG.chg hgrow kc lo7)
  have rq8 := HT.out.put 0 (.slice ao' (p.length + 1) cap')
  simp only [List.set_cons_zero] at rq8
  rw [hw8] at rq8 ⊢
  have Q8 := Lib.hid rq8
  have B28 := Lib.hid (show Below w2.heap.size w2 w8 from hw8 ▸ Below.setCell (Chg.below (below_trans (show Below w2.heap.size w2 w3 from HBC.out) B36.out) hG.chg (fun b hb => (HVIN.out (.slice ao p.length cap) (by simp) b hb).1)) (p := ⟨w3.heap.size, 0, none⟩) LB.out _)
  have HD1 := Lib.hid d1
  have HD2 := Lib.hid d2
  have LO7 := Lib.hid lo7
  clear hG hgrow lo7 hw8 kc rq8 HBD HSRC HROW HO6 HG HT T1 T2 Q6 PP6 c4 HI0 HZ0 HS0 HBY hle' hmx' hw4 hw5 hw6 d1 d2
  have RQ := Lib.hid (O8.out.reads).2
  have B8 := Lib.hid (below_trans B2.out B28.out)
  have hL8 : (moreP p).length = p.length + 1 := by simp [moreP]
  have HL8 := Lib.hid hL8
  clear hL8
  go_loopw [6] (fun i wr => ∃ k : Nat, k ≤ p.length ∧ i = .int .i64 k ∧ Below w8.heap.size w8 wr) (fun i _ => p.length - (intOf i).toNat)
  case atStart => exact ⟨0, Nat.zero_le _, rfl, Below.refl _ _⟩
  case round =>
    obtain ⟨k, hk, rfl, hB⟩ := hrel
    have BR := Lib.hid hB
    have pp := ((PP2.out.below B28.out).below hB).cell (k := 0) (by simp)
    have qq := (Q8.out.below hB).cell (k := 0) (by simp)
    simp only [List.getElem_cons_zero] at pp qq
    have hb := below_trans B8.out hB
    by_cases hlt : k < p.length
    · have HH := Lib.hid (heightsV_any p A c k wr (HL.out.below hb) (HR.out.below hb))
      have hmo := heightsOf_more H1.out H8.out hlt
      obtain ⟨r, hr⟩ : ∃ r, heightsOf p k = r := ⟨_, rfl⟩
      obtain ⟨r', hr'⟩ : ∃ r', heightsOf (moreP p) k = r' := ⟨_, rfl⟩
      rw [hr, hr'] at hmo
      rw [hr] at HH
      have HR' := Lib.hid hr'
      obtain ⟨hs, a, e0⟩ := r
      obtain ⟨gs, b, f0⟩ := r'
      have HMO := Lib.hid hmo
      have HBB := Lib.hid hb
      clear hr hr' hmo hb hB
      go_wp2_with fail
      (with_reducible refine HH.out.mono ?_)
      rintro e w9 hE
      obtain ⟨A5, c5, rfl, hrow5, hB5⟩ := hE.reads
      have B59 := Lib.hid hB5
      have HI := Lib.hid hrow5.ints.2
      have q9 := ((Q8.out.below BR.out).below hB5).cell (k := 0) (by simp)
      simp only [List.getElem_cons_zero] at q9
      have HH2 := Lib.hid (heightsV_any (moreP p) ao' cap' k w9 (HL.out.below (below_trans HBB.out hB5)) (RQ.out.below (below_trans BR.out hB5)))
      rw [HR'.out, HL8.out] at HH2
      clear hE hrow5 hB5 qq pp HH
      go_wp2_with fail
      (with_reducible refine HH2.out.mono ?_)
      rintro e w10 hE
      obtain ⟨A6, c6, rfl, hrow6, hB6⟩ := hE.reads
      have B10 := Lib.hid (below_trans BR.out (below_trans B59.out hB6))
      have HI5 := Lib.hid (HI.out.below hB6)
      have HI6 := Lib.hid hrow6.ints.2
      clear hE hrow6 hB6 q9 HH2
      by_cases h501 : e0 = 501
      · subst h501
        clear HMO
        go_wp2_with (first | ((go_at_call 15; refine (num_any _ _).mono ?_; rintro e wn ⟨rfl, rfl⟩)))
        go_roundw
        case rel => exact ⟨k + 1, by omega, by go_num, B10.out⟩
        case measure => simp only [intOf]; omega
      · have h5 := HMO.out h501
        injection h5 with e1 e2
        injection e2 with e2 e3
        subst e1 e2 e3
        by_cases h0 : f0 = 0
        · subst h0
          clear HMO h501
          have HS := Lib.hid (sameInts_any A5 A6 c5 c6 gs gs w10 HI5.out HI6.out)
          rw [decide_eq_true rfl] at HS
          go_wp2_with (first | ((go_at_call 15; refine (num_any _ _).mono ?_; rintro e wn ⟨rfl, rfl⟩)) | ((go_at_call 16; (with_reducible refine HS.out.mono ?_); rintro e wn ⟨rfl, nd, rfl⟩)))
          go_roundw
          case rel => exact ⟨k + 1, by omega, by go_num, below_drew B10.out _⟩
          case measure => simp only [intOf]; omega
        · have t1 : (f0 == 0) = false := by simpa using h0
          have t2 : (f0 != 0) = true := by simpa using h0
          have t3 : (f0 != 501) = true := by simpa using h501
          have t4 : (f0 != f0) = false := by simp
          have t5 : (b != b) = false := by simp
          clear HMO h501 h0
          go_wp2_with (first | ((go_at_call 15; refine (num_any _ _).mono ?_; rintro e wn ⟨rfl, rfl⟩)))
          go_roundw
          case rel => exact ⟨k + 1, by omega, by go_num, B10.out⟩
          case measure => simp only [intOf]; omega
    · obtain ⟨w11, rfl⟩ : ∃ w11 : World, w11 = wr := ⟨_, rfl⟩
      obtain ⟨j, hj, hjl⟩ := u64_rem which p.length (by have := H1.out; omega) (by have := H8.out; omega)
      have e1 := H1.out
      have e8 := H8.out
      obtain ⟨g, off, eA, hg1, hg2, hob, hj', A1, c1, ev, hin, d0, d1, d2, hfz⟩ := OwnP.at_ (OwnG.below O8.out hB) (k := j) (by rw [HL8.out]; omega)
      subst eA
      obtain ⟨f, hf⟩ : ∃ f, p[j] = f := ⟨_, rfl⟩
      have em : ∀ h : j < (moreP p).length, (moreP p)[j] = f := fun h => (more_get hjl h).trans hf
      simp only [em] at ev hin d0 d1 d2
      have HF := Lib.hid hf
      have HEV := Lib.hid ev
      have HIN := Lib.hid hin
      have HFZ := Lib.hid hfz
      have HBB := Lib.hid hb
      have OB := Lib.hid hob
      have HG2 := Lib.hid hg2
      obtain ⟨L, hL⟩ : ∃ L, f.code.length = L := ⟨_, rfl⟩
      rw [hL] at d2 HEV HIN
      have HLL := Lib.hid hL
      have HLJ := Lib.hid (show (j : Int) < p.length by omega)
      have HRO := Lib.hid (CRow.code hin)
      have hLr : L ≤ 9223372036854775807 := by have := (CRow.code hin).1; rw [hL] at this; exact this
      have rb := HR.out.below hb
      have HPK := Lib.hid (O8.out.reads)
      clear hob hg1 hg2 ev hin hfz em hB hb hf rb
      by_cases hL0 : L = 0
      · have HLL := Lib.hid hL
        subst hL0
        clear hL
        go_wp2_with fail
        go_ret
        exact ⟨rfl, below_alloc HBB.out _⟩
      obtain ⟨M, rfl⟩ : ∃ M, L = M + 1 := ⟨L - 1, by omega⟩
      have HLL := Lib.hid hL
      have hM : M < f.code.length := by omega
      clear hL0
      by_cases hM63 : (64 : Int) ≤ (M : Int) + 1
      · have t1 : decide ((64 : Int) ≤ (M : Int) + 1) = true := by simpa using hM63
        clear hM63 hL
        go_wp2_with fail
        go_ret
        exact ⟨rfl, below_alloc HBB.out _⟩
      have t1 : decide ((64 : Int) ≤ (M : Int) + 1) = false := by simpa using hM63
      have HM63 : M + 1 < 64 := by omega
      obtain ⟨w12, hw12⟩ : ∃ w12, w11.alloc (.cells #[.int .i64 f.args, .int .i64 f.locals, .slice A1 (M + 1) c1] 31) = w12 := ⟨_, rfl⟩
      have b12 : Below w11.heap.size w11 w12 := hw12 ▸ below_alloc (Below.refl _ _) _
      have y12 : w12.heap.size = w11.heap.size + 1 := by rw [← hw12]; simp
      have rF12 : RowAt 31 w11.heap.size [.int .i64 f.args, .int .i64 f.locals, .slice A1 (M + 1) c1] w12 := hw12 ▸ RowAt.new _ _ w11
      obtain ⟨ac, eAc, x0, -⟩ := HRO.out.at_ b12 hM
      obtain ⟨xk, hxk⟩ : ∃ xk, f.code[M].kind = xk := ⟨_, rfl⟩
      rw [hxk] at x0
      have f0 := rF12.cell (k := 0) (by simp)
      have f1 := rF12.cell (k := 1) (by simp)
      have f2 := rF12.cell (k := 2) (by simp)
      simp only [List.getElem_cons_zero, List.getElem_cons_succ] at f0 f1 f2
      subst eAc
      clear hL hM63
      by_cases hk16 : xk = 16 ∨ xk = 12
      case neg =>
        have t2 : (xk != 16) = true := by simp; omega
        have t3 : (xk != 12) = true := by simp; omega
        clear hk16
        have HE := Lib.hid (below_trans HBB.out b12)
        clear b12 y12 rF12 hxk
        go_wp2_with fail
        go_ret
        exact ⟨rfl, HE.out⟩
      have B12 := Lib.hid b12
      have R12 := Lib.hid rF12
      have Y12 := Lib.hid y12
      obtain ⟨w13, hw13⟩ : ∃ w13, w12.alloc (.cells #[.int .i64 16, .int .i64 0] 28) = w13 := ⟨_, rfl⟩
      have b13 : Below w12.heap.size w12 w13 := hw13 ▸ below_alloc (Below.refl _ _) _
      have r13 : RowAt 28 w12.heap.size (insV [⟨16, 0⟩]) w13 := hw13 ▸ RowAt.new _ _ w12
      have B13 := Lib.hid (below_trans b12 b13)
      have hrow13 : CRow w13 w2.heap.size 28 2 (.slice (some ac) (M + 1) c1) (M + 1) (insV f.code) := by
        have := CRow.below HIN.out B13.out
        unfold innC at this
        simp only at this
        rwa [HLL.out] at this
      have HROW := Lib.hid hrow13
      have HSRC := Lib.hid (show Src Tryd.prog 2 29 (.slice (some ⟨w12.heap.size, 0, none⟩) 1 1) 1 (insV [⟨16, 0⟩]) w13 from code_src (P := Tryd.prog) Tryd.underlying29 (c := 1) (codeL (xs := [⟨16, 0⟩]) r13 (by simp)))
      have R13 := Lib.hid (rF12.below b13)
      have HIO := Lib.hid (show ∀ b, ob (.slice (some ac) (M + 1) c1) = some b → w2.heap.size ≤ b ∧ b < w11.heap.size from fun b hb => CRow.in_ HIN.out b hb)
      have LE13 := Lib.hid (show w2.heap.size ≤ w13.heap.size by have := b13.size; have := BR.out.size; have := B28.out.size; omega)
      have LE14 := Lib.hid (show w11.heap.size + 1 ≤ w13.heap.size by have := b13.size; omega)
      have h11 := OwnG.below O8.out BR.out
      have hjv : (vss ++ [[Value.slice (some ⟨w4.heap.size, 0, none⟩) 2 2]])[j] = [.slice (some ac) (M + 1) c1] := HEV.out
      have hl0 : 0 < (vss ++ [[Value.slice (some ⟨w4.heap.size, 0, none⟩) 2 2]])[j].length := by rw [hjv]; simp
      have he0 : (vss ++ [[Value.slice (some ⟨w4.heap.size, 0, none⟩) 2 2]])[j][0] = .slice (some ac) (M + 1) c1 := by simp [hjv]
      have hgo : ob (.slice (some ac) (M + 1) c1) ≠ some g := fun e => h11.sep.one j hj' 0 hl0 g OB.out (by rw [he0]; exact e)
      have hq0 : ob (.slice (some ac) (M + 1) c1) ≠ some w3.heap.size := fun e => LO7.out _ (List.mem_cons_of_mem _ (List.mem_flatten.2 ⟨_, List.getElem_mem hj', by rw [hjv]; simp⟩)) _ e rfl
      have HGO := Lib.hid hgo
      have HQ0 := Lib.hid hq0
      have HE0 := Lib.hid he0
      have H11 := Lib.hid h11
      obtain ⟨i1, hi0, hz0, hs0, hb0⟩ := info_parts info_ins
      have HI0 := Lib.hid hi0
      have HZ0 := Lib.hid hz0
      have HS0 := Lib.hid hs0
      have HBY := Lib.hid hb0
      have D0 := Lib.hid d0
      have D1 := Lib.hid d1
      have D2 := Lib.hid d2
      have LTQ := Lib.hid (blk_lt (Q8.out.below BR.out))
      clear b12 y12 rF12 b13 r13 hrow13 h11 hjv he0 hgo hq0 hi0 hz0 hs0 hb0
      have HK16 := Lib.hid hk16
      have HXK := Lib.hid hxk
      obtain ⟨t2, t3⟩ | ⟨t2, t3⟩ : ((xk != 16) = false ∧ True) ∨ ((xk != 16) = true ∧ (xk != 12) = false) := by
        rcases hk16 with h | h
        · exact .inl ⟨by simpa using h, trivial⟩
        · exact .inr ⟨by simp; omega, by simpa using h⟩
      all_goals
        clear hk16 hxk
        go_upto_region 22 with (first | (at_builtin; refine wpList_append_crow _ rfl _ _ 29 29 28 rfl i1 _ 2 16 Tryd.underlying29 HI0.out HZ0.out HS0.out HBY.out rfl w2.heap.size _ (M + 1) _ rfl HROW.out ?c4 _ 1 _ rfl HSRC.out ?c5 ?c6 ?_; rotate_left 3; intro v2 w14 hG; obtain ⟨ao2, cap2, hv2, hle2, hmx2⟩ := hG.row.shape; subst hv2; have hS := R13.out.chg hG.chg (fun e => by have := (HIO.out _ e).2; omega); have T1 := hS.cell (k := 2) (by simp); have T2 := hS.free 2; simp only [List.getElem_cons_zero, List.getElem_cons_succ] at T1; have HG := Lib.hid hG; have HT := Lib.hid hS; clear hG hS) | fail)
        case c4 => exact LE13.out
        case c5 => omega
        case c6 => unfold maxLen; omega
        have hG := HG.out
        have rF15 := HT.out.put 2 (.slice ao2 (M + 1 + 1) cap2)
        simp only [List.set_cons_zero, List.set_cons_succ] at rF15
        obtain ⟨w15, hw15⟩ : ∃ w15, w14.setCell ⟨w11.heap.size, 2, none⟩ (.slice ao2 (M + 1 + 1) cap2) = w15 := ⟨_, rfl⟩
        rw [hw15] at rF15
        have ch : Chg (fun b => ob (.slice (some ac) (M + 1) c1) = some b ∨ b = w11.heap.size) w11 w15 := hw15 ▸ ((Chg.of_below (S := fun b => ob (.slice (some ac) (M + 1) c1) = some b ∨ b = w11.heap.size) B13.out).trans hG.chg (fun _ _ h => .inl h)).put (a := ⟨w11.heap.size, 2, none⟩) (.inr rfl) _
        have hgS : ¬ (ob (.slice (some ac) (M + 1) c1) = some g ∨ g = w11.heap.size) := fun h => by
          rcases h with h | h
          · exact HGO.out h
          · have := HG2.out; omega
        have hqS : ¬ (ob (.slice (some ac) (M + 1) c1) = some w3.heap.size ∨ w3.heap.size = w11.heap.size) := fun h => by
          rcases h with h | h
          · exact HQ0.out h
          · have := LTQ.out; omega
        have hu : InnAt w15 w2.heap.size (.slice ao2 (M + 1 + 1) cap2) (innC (longF f).code) := by
          have h := hG.row
          rw [← insV_app2] at h
          have h2 : CRow w15 w2.heap.size 28 2 (.slice ao2 (M + 1 + 1) cap2) (M + 1 + 1) (insV (f.code ++ [⟨16, 0⟩])) := h.chg (S := fun b => b = w11.heap.size) (hw15 ▸ Chg.put (S := fun b => b = w11.heap.size) (Chg.refl _ w14) (a := ⟨w11.heap.size, 2, none⟩) rfl _) (fun b hb e => by
            rcases hG.at_ b hb with h3 | h3
            · have := (HIO.out b h3).2; omega
            · have := LE14.out; omega)
          have hlc : (longF f).code.length = M + 1 + 1 := by unfold longF; simp [HLL.out]
          show CRow w15 w2.heap.size 28 2 (.slice ao2 (M + 1 + 1) cap2) (longF f).code.length (insV (longF f).code)
          rw [hlc]; exact h2
        have hst := OwnP.store H11.out (k := j) (by rw [HL8.out]; omega) hj' (longF f) (.slice ao2 (M + 1 + 1) cap2) ch hgS (fun b hb i hi q hq hne e => by
          rcases hb with h | h
          · exact H11.out.sep.two j hj' 0 hl0 i hi q hq (.inl (fun e => hne e.symm)) b (by rw [HE0.out]; exact h) e
          · have := (OwnG.lo H11.out _ (List.mem_cons_of_mem _ (List.mem_flatten.2 ⟨_, List.getElem_mem hi, List.getElem_mem hq⟩)) b e).2
            omega) hu (fun b hb => by
          rcases hG.at_ b hb with h3 | h3
          · exact .inl ⟨0, hl0, by rw [HE0.out]; exact h3⟩
          · exact .inr (by have := LE14.out; omega))
        have e0' := ch.cell D0.out hgS
        have e1' := ch.cell D1.out hgS
        have e2' := ch.cell D2.out hgS
        have z0 := ch.free (HFZ.out 0 (by decide)) HG2.out hgS
        have z1 := ch.free (HFZ.out 1 (by decide)) HG2.out hgS
        have z2 := ch.free (HFZ.out 2 (by decide)) HG2.out hgS
        rw [Nat.add_zero] at z0
        have q15 := (Q8.out.below BR.out).chg ch hqS
        have qc := q15.cell (k := 0) (by simp)
        have g0 := rF15.cell (k := 0) (by simp)
        have g1 := rF15.cell (k := 1) (by simp)
        have g2 := rF15.cell (k := 2) (by simp)
        simp only [List.getElem_cons_zero, List.getElem_cons_succ] at qc g0 g1 g2
        have B215 := Lib.hid (Chg.below (below_trans B28.out BR.out) ch (fun b hb => by
          rcases hb with h | h
          · exact (HIO.out b h).1
          · have := BR.out.size; have := B28.out.size; omega))
        have Q15 := Lib.hid q15
        have HST := Lib.hid hst
        clear hG hu hst q15 ch hgS hqS HG HT T1 T2 hmx2 hle2 rF15 f0 f1 f2 x0 d0 d1 d2 pp qq t1 t2 t3 hw12 hw13
        rw [hw15]
        clear hw15
        go_upto_region 23 with fail
        obtain ⟨w16, hw16⟩ : ∃ w16, (((w15.setCell ⟨g, off + j * 3, none⟩ (.int .i64 f.args)).setCell ⟨g, off + j * 3 + 1, none⟩ (.int .i64 f.locals)).setCell ⟨g, off + j * 3 + 2, none⟩ (.slice ao2 (M + 1 + 1) cap2)) = w16 := ⟨_, rfl⟩
        have c16 : Chg (fun b => b = g) w15 w16 := hw16 ▸ (((Chg.refl (fun b => b = g) w15).put (a := ⟨g, off + j * 3, none⟩) rfl _).put (a := ⟨g, off + j * 3 + 1, none⟩) rfl _).put (a := ⟨g, off + j * 3 + 2, none⟩) rfl _
        have hst16 : OwnP w16 w2.heap.size (.slice (some ⟨g, off, none⟩) (p.length + 1) cap') ((moreP p).set j (longF f)) _ := hw16 ▸ HST.out
        have LNG : (moreP p).set j (longF f) = longP p j p[j] := by rw [HF.out]; rfl
        rw [LNG] at hst16
        have RL16 := Lib.hid (OwnP.reads hst16).2
        have gge := (H11.out.row.in_ g OB.out).1
        have B216 := Lib.hid (Chg.below B215.out c16 (fun b hb => by subst hb; exact gge))
        have q16 := Q15.out.chg c16 (fun e => LO7.out _ (List.mem_cons_self ..) g OB.out e.symm)
        have p16 := (PP2.out.below B216.out).cell (k := 0) (by simp)
        simp only [List.getElem_cons_zero] at p16
        have Q16 := Lib.hid q16
        rw [hw16]
        clear hw16 c16 hst16 LNG gge q16 qc g0 g1 g2 z0 z1 z2 e0' e1' e2'
        have hb16 := below_trans B2.out B216.out
        have HH := Lib.hid (rheights_any p A c j w16 (HR.out.below hb16))
        have HLO := Lib.hid (show (heightsOf p j).2.2 = 0 → heightsOf (longP p j p[j]) j = ((heightsOf p j).1 ++ [-1], 0, 0) ∧ (heightsOf p j).1.length = M + 1 from fun h => by
          have hfl : p[j].code.length = M + 1 := by rw [HF.out]; exact HLL.out
          obtain ⟨h1, h2⟩ := heightsOf_long H8.out hjl (by rw [hfl]; exact HM63) (fun hh => by
            have ek : p[j].code[p[j].code.length - 1].kind = xk := by rw [← HXK.out]; simp only [HF.out, HLL.out, Nat.add_sub_cancel]
            rw [ek]; exact HK16.out) h
          exact ⟨h1, h2.trans hfl⟩)
        obtain ⟨r, hr⟩ : ∃ r, heightsOf p j = r := ⟨_, rfl⟩
        obtain ⟨r', hr'⟩ : ∃ r', heightsOf (longP p j p[j]) j = r' := ⟨_, rfl⟩
        rw [hr] at HH
        rw [hr, hr'] at HLO
        have HR' := Lib.hid hr'
        obtain ⟨hs, a, e0⟩ := r
        obtain ⟨gs, b, f0⟩ := r'
        have HB16 := Lib.hid hb16
        clear hr hr' hb16
        go_wp2_with fail
        (with_reducible refine HH.out.mono ?_)
        rintro e w17 hE
        obtain ⟨A5, c5, rfl, hrow5, hB5⟩ := hE.reads
        have B17 := Lib.hid hB5
        have HI := Lib.hid hrow5.ints.2
        have q17 := (Q16.out.below hB5).cell (k := 0) (by simp)
        simp only [List.getElem_cons_zero] at q17
        have HH2 := Lib.hid (heightsV_any (longP p j p[j]) (some ⟨g, off, none⟩) cap' j w17 (HL.out.below (below_trans HB16.out hB5)) (RL16.out.below hB5))
        rw [HR'.out, long_len] at HH2
        clear hE hrow5 hB5 p16 HH
        go_wp2_with fail
        (with_reducible refine HH2.out.mono ?_)
        rintro e w18 hE
        obtain ⟨A6, c6, rfl, hrow6, hB6⟩ := hE.reads
        have BE := Lib.hid (below_trans HB16.out (below_trans B17.out hB6))
        have HI5 := Lib.hid (HI.out.below hB6)
        have HI6 := Lib.hid hrow6.ints.2
        have hc6 := CRow.cap (.inl hrow6)
        simp only at hc6 HI6 HI5
        clear hE hrow6 hB6 q17 HH2
        by_cases h0 : e0 = 0
        · subst h0
          obtain ⟨hx, hl⟩ := HLO.out rfl
          injection hx with hx1 hx2
          injection hx2 with hx2 hx3
          subst hx1 hx2 hx3
          have hgl : (hs ++ [-1]).length = M + 2 := by rw [List.length_append, hl]; rfl
          have hl' : hs.length = M + 1 := hl
          have HT1 := HI6.out.prefix
          have HS := Lib.hid (sameInts_any A6 A5 c6 c5 hs hs w18 HT1 HI5.out)
          obtain ⟨a6, ea6, ca6⟩ := HI6.out.at_ (k := M + 1) (by rw [hgl]; omega)
          have hlast : (hs ++ [-1])[M + 1]'(by rw [hgl]; omega) = -1 := by rw [List.getElem_append_right (by omega)]; simp [hl']
          rw [hlast, add_pos _ _ (Nat.succ_pos M)] at ca6
          rw [decide_eq_true rfl] at HS
          rw [hgl] at hc6
          simp only [hgl]
          simp only [hl'] at HS ⊢
          subst ea6
          clear hgl hl hl' hlast HT1 HLO HI5 HI6
          go_wp2_with (first | ((go_at_call 15; refine (num_any _ _).mono ?_; rintro e wn ⟨rfl, rfl⟩)) | ((go_at_call 16; (with_reducible refine HS.out.mono ?_); rintro e wn ⟨rfl, nd, rfl⟩)))
          go_ret
          exact ⟨rfl, below_drew BE.out _⟩
        · have t1 : (e0 != 0) = true := by simpa using h0
          clear h0 HLO
          go_wp2_with fail
          go_ret
          exact ⟨rfl, BE.out⟩
end Go.Proofs.YtpfgklkdldkajaaDoor
