/- EvalRows: the walk. A row of operations upon a number comes to what plain reckoning says. Conditions: errors.errorType is laid; the row lies in memory. -/
import Derived.Test.YtpfgklkdldkajaaDoorGE25
import Derived.Test.YtpfgklkdldkajaaDoorEvRowsLaw
import Derived.Test.YtpfgklkdldkajaaDoorRefDo
import Derived.Test.YtpfgklkdldkajaaDoorCopyG
namespace Go.Proofs.YtpfgklkdldkajaaDoor
open Go.RowKit

theorem fold_num : ∀ (rs : List Int) (s : Int × Bool × Int), isNum s.1 = true → isNum (rs.foldl rowStep s).1 = true
  | [], _, h => h
  | r :: rs, s, h => by
    rw [List.foldl_cons]
    refine fold_num rs _ ?_
    unfold rowStep
    split
    · exact h
    · exact doN_num _ _ _
theorem fold_cost : ∀ (rs : List Int) (s : Int × Bool × Int), s.2.2 ≤ (rs.foldl rowStep s).2.2 ∧ (rs.foldl rowStep s).2.2 ≤ s.2.2 + 2 * rs.length
  | [], s => ⟨Int.le_refl _, by simp⟩
  | r :: rs, s => by
    rw [List.foldl_cons, List.length_cons]
    have h := fold_cost rs (rowStep s r)
    have h2 : s.2.2 ≤ (rowStep s r).2.2 ∧ (rowStep s r).2.2 ≤ s.2.2 + 2 := by
      unfold rowStep
      split
      · exact ⟨Int.le_refl _, by omega⟩
      · exact ⟨show s.2.2 ≤ s.2.2 + 2 by omega, Int.le_refl _⟩
    omega
theorem take_next {rows : List Int} {j : Nat} (h : j < rows.length) : rows.take (j + 1) = rows.take j ++ [rows[j]] := by rw [List.take_add_one, List.getElem?_eq_getElem h]; rfl
def rowsH (v : Int) (rs : List Int) : List Ins := ⟨0, v⟩ :: flatR rs
theorem rowsH_len (v : Int) (rs : List Int) : (rowsH v rs).length = 2 * rs.length + 1 := by unfold rowsH; rw [List.length_cons, flatR_len]
theorem rowsH_next (v : Int) (rs : List Int) (r : Int) : rowsH v (rs ++ [r]) = rowsH v rs ++ [⟨0, bOf r⟩, ⟨opOf r, 0⟩] := by unfold rowsH; rw [flatR_app]; rfl
theorem insV_app3 (xs ys : List Ins) : insV (xs ++ ys) = insV xs ++ insV ys := by simp [insV]
theorem u7 (r : Int) : IntKind.u64.wrap (r / 16) = r / 16 % 18446744073709551616 := by rw [IntKind.wrap_u64]
/-- What has come of the first rows. -/
def stR (v0 : Int) (rows : List Int) (j : Nat) : Int × Bool × Int := (rows.take j).foldl rowStep (v0, false, 1)
theorem stR_next {v0 : Int} {rows : List Int} {j : Nat} (h : j < rows.length) : stR v0 rows (j + 1) = rowStep (stR v0 rows j) rows[j] := by unfold stR; rw [take_next h, List.foldl_append]; rfl
theorem stR_num {v0 : Int} (h : isNum v0 = true) (rows : List Int) (j : Nat) : isNum (stR v0 rows j).1 = true := fold_num _ _ h
theorem stR_cost (v0 : Int) (rows : List Int) (j : Nat) : 1 ≤ (stR v0 rows j).2.2 ∧ (stR v0 rows j).2.2 ≤ 1 + 2 * j := by
  have h := fold_cost (rows.take j) (v0, false, 1)
  have h2 : (rows.take j).length ≤ j := by rw [List.length_take]; omega
  simp only at h
  exact ⟨h.1, by unfold stR; omega⟩
set_option maxRecDepth 100000 in
set_option maxHeartbeats 8000000 in
theorem evalRows_yes (from' : Int) (A : Option Addr) (c : Nat) (rows : List Int) (W : World) (hl : Laid W) (hr : ReadsI W A rows) : Calls Tryd.prog 10 #[.int .i64 from', .slice A rows.length c] W (Ret (.bool true) W) := by
  have HA := Lib.hid (awake8_any W hl)
  have HL := Lib.hid hl
  have HR := Lib.hid hr
  have hnr := hr.1
  have hv0 := wrapN_num from'
  have HWR := Lib.hid (fun W => refWrapN_any from' W)
  obtain ⟨v0, ev0⟩ : ∃ v0, wrapN from' = v0 := ⟨_, rfl⟩
  rw [ev0] at hv0 HWR
  have HV0 := Lib.hid hv0
  clear hl hr hv0 ev0
  go_enter Tryd.func10, Tryd.ntmps10
  go_wp2_with fail
  (with_reducible refine HA.out.mono ?_)
  rintro e w1 ⟨rfl, hB1⟩
  have B1 := Lib.hid hB1
  obtain ⟨w2, hw2⟩ : ∃ w2, w1.alloc (.cells #[.int .i64 0, .int .i64 v0] 28) = w2 := ⟨_, rfl⟩
  have b2 : Below w1.heap.size w1 w2 := hw2 ▸ below_alloc (Below.refl _ _) _
  have rc : RowAt 28 w1.heap.size (insV (rowsH v0 [])) w2 := hw2 ▸ RowAt.new 28 [.int .i64 0, .int .i64 v0] w1
  have RC := Lib.hid (show CRow w2 w1.heap.size 28 2 (.slice (some ⟨w1.heap.size, 0, none⟩) 1 1) 1 (insV (rowsH v0 [])) from crow_of rc (Nat.le_refl _) (by simp [rowsH, flatR, insV_len]) (by decide))
  have B2 := Lib.hid (below_trans hB1 b2)
  have W2S := Lib.hid b2.size
  clear hB1 b2 rc HA
  go_wp2_with (first | (go_at_call 30; (with_reducible refine (HWR.out _).mono ?_); rintro e wn ⟨rfl, ew⟩; subst wn) | fail)
  clear hw2
  go_loopw [5, 6, 7, 8, 9] (fun v cv t k i wr => ∃ j : Nat, j ≤ rows.length ∧ j ≤ 25 ∧ v = .int .i64 (stR v0 rows j).1 ∧ t = .bool (stR v0 rows j).2.1 ∧ k = .int .i64 (stR v0 rows j).2.2 ∧ i = .int .i64 j ∧ CRow wr w1.heap.size 28 2 cv (2 * j + 1) (insV (rowsH v0 (rows.take j))) ∧ Below W.heap.size W wr ∧ w1.heap.size ≤ wr.heap.size) (fun _ _ _ _ i _ => 30 - (intOf i).toNat)
  case atStart => exact ⟨0, Nat.zero_le _, by decide, rfl, rfl, rfl, rfl, by rw [List.take_zero]; exact RC.out, B2.out, W2S.out⟩
  case round =>
    obtain ⟨j, hj, h25, rfl, rfl, rfl, rfl, hc, hb, hsz⟩ := hrel
    obtain ⟨ao, cap, rfl, _, _⟩ := hc.shape
    by_cases hlt : j < rows.length ∧ j < 25
    · have t0 : decide ((j : Int) < (rows.length : Int)) = true := decide_eq_true (by omega)
      have t1 : decide ((j : Int) < 25) = true := decide_eq_true (by omega)
      obtain ⟨ad, rfl, cj⟩ := (HR.out.below hb).at_ hlt.1
      have HST := Lib.hid (stR_next (v0 := v0) hlt.1)
      have HNX := Lib.hid (show rowsH v0 (rows.take (j + 1)) = rowsH v0 (rows.take j) ++ [⟨0, bOf rows[j]⟩, ⟨opOf rows[j], 0⟩] by rw [take_next hlt.1, rowsH_next])
      obtain ⟨r, er⟩ : ∃ r, rows[j] = r := ⟨_, rfl⟩
      rw [er] at HST HNX cj
      have eb : bits .and .i64 r 15 = r % 16 := i64_m15 r
      have e2 : r % 16 - 4 = bOf r := rfl
      have e3 : wrap64 (3 + wrap64 ((IntKind.u64.wrap (r / 16)).tmod 7)) = opOf r := by
        rw [u7, Int.tmod_eq_emod_of_nonneg (by omega)]; unfold opOf wrap64; omega
      go_upto_region 12 with fail
      rw [e3]
      have hop := op_in r
      obtain ⟨b, eb2⟩ : ∃ b, bOf r = b := ⟨_, rfl⟩
      obtain ⟨op, eop⟩ : ∃ op, opOf r = op := ⟨_, rfl⟩
      have hbn := b_num r
      rw [eb2] at HNX hbn ⊢
      rw [eop] at HNX hop ⊢
      obtain ⟨S, eS⟩ : ∃ S, stR v0 rows j = S := ⟨_, rfl⟩
      have hSn := stR_num HV0.out rows j
      have hSc := stR_cost v0 rows j
      rw [eS] at HST hSn hSc ⊢
      have HST2 := Lib.hid (show stR v0 rows (j + 1) = if S.2.1 = true then S else ((doN op S.1 b).1, (doN op S.1 b).2, S.2.2 + 2) by rw [HST.out]; unfold rowStep; rw [eb2, eop])
      clear e2 e3 eb2 eop eS HST er eb
      obtain ⟨v, t, k⟩ := S
      simp only at hSn hSc HST2 ⊢
      have b2 := below_alloc (Below.refl wr.heap.size wr) (.cells #[.int .i64 0, .int .i64 b, .int .i64 op, .int .i64 0] 28)
      have rN : RowAt 28 wr.heap.size (insV [⟨0, b⟩, ⟨op, 0⟩]) (wr.alloc (.cells #[.int .i64 0, .int .i64 b, .int .i64 op, .int .i64 0] 28)) := RowAt.new 28 [.int .i64 0, .int .i64 b, .int .i64 op, .int .i64 0] wr
      have hsrc : Src Tryd.prog 2 29 (.slice (some ⟨wr.heap.size, 0, none⟩) 2 2) 2 (insV [⟨0, b⟩, ⟨op, 0⟩]) (wr.alloc (.cells #[.int .i64 0, .int .i64 b, .int .i64 op, .int .i64 0] 28)) := code_src (xs := [⟨0, b⟩, ⟨op, 0⟩]) Tryd.underlying29 (codeL rN (by simp))
      obtain ⟨ii, hi, hz0, hs2, hbb⟩ := info_parts info_ins
      obtain ⟨v', wn, hrun, hG⟩ := run_append_crow (P := Tryd.prog) (wr.alloc (.cells #[.int .i64 0, .int .i64 b, .int .i64 op, .int .i64 0] 28)) 29 28 29 29 ii _ 2 16 Tryd.underlying29 hi hz0 hs2 hbb rfl w1.heap.size ao (2 * j + 1) cap (insV (rowsH v0 (rows.take j))) (hc.below b2) (by have := b2.size; omega)
        (.slice (some ⟨wr.heap.size, 0, none⟩) 2 2) 2 (insV [⟨0, b⟩, ⟨op, 0⟩]) hsrc (by omega) (by unfold maxLen; omega)
      have hrow := hG.row
      rw [← insV_app3, ← HNX.out, show 2 * j + 1 + 2 = 2 * (j + 1) + 1 by omega] at hrow
      have HN := Lib.hid (show CRow wn w1.heap.size 28 2 v' (2 * (j + 1) + 1) (insV (rowsH v0 (rows.take (j + 1)))) ∧ Below W.heap.size W wn ∧ w1.heap.size ≤ wn.heap.size from ⟨hrow, Chg.below (below_trans hb b2) hG.chg (fun b e => by have := (hc.in_ b e).1; have := B1.out.size; omega), by have := hG.chg.size; have := b2.size; omega⟩)
      have HJ := Lib.hid (And.intro hlt hj)
      have HD := Lib.hid (fun W => rdo_any hop.1 hop.2 v b hSn hbn W)
      have HK := Lib.hid hSc
      have e4 : wrap64 (k + 2) = k + 2 := by unfold wrap64; omega
      have e5 : wrap64 ((j : Int) + 1) = (j : Int) + 1 := by unfold wrap64; omega
      clear hc hb hsrc rN b2 hi hz0 hs2 hbb hG hrow hj h25 hsz hlt hop hSn hSc hbn HNX
      cases t with
      | true =>
        go_wp2_with (first | (at_builtin; refine wpList_append_run _ rfl _ _ _ _ rfl _ _ _ _ rfl rfl hrun ?_) | fail)
        go_roundw
        case rel => exact ⟨j + 1, HJ.out.1.1, HJ.out.1.2, by rw [HST2.out]; rfl, by rw [HST2.out]; rfl, by rw [HST2.out]; rfl, by rw [e5]; rfl, HN.out.1, HN.out.2.1, HN.out.2.2⟩
        case measure =>
          have h25 := HJ.out.1.2
          rw [e5]
          show 30 - ((j : Int) + 1).toNat < 30 - (j : Int).toNat
          omega
      | false =>
        obtain ⟨D, hD⟩ : ∃ D, doN op v b = D := ⟨_, rfl⟩
        rw [hD] at HD HST2
        obtain ⟨x, tr⟩ := D
        simp only at HD HST2
        go_wp2_with (first | (at_builtin; refine wpList_append_run _ rfl _ _ _ _ rfl _ _ _ _ rfl rfl hrun ?_) | (go_at_call 31; (with_reducible refine (HD.out _).mono ?_); rintro e wq ⟨rfl, ew⟩; subst wq) | fail)
        go_roundw
        case rel => exact ⟨j + 1, HJ.out.1.1, HJ.out.1.2, by rw [HST2.out]; rfl, by rw [HST2.out]; rfl, by rw [HST2.out, e4]; rfl, by rw [e5]; rfl, HN.out.1, HN.out.2.1, HN.out.2.2⟩
        case measure =>
          have h25 := HJ.out.1.2
          rw [e5]
          show 30 - ((j : Int) + 1).toNat < 30 - (j : Int).toNat
          omega
    · obtain ⟨S, eS⟩ : ∃ S, stR v0 rows j = S := ⟨_, rfl⟩
      have hSc := stR_cost v0 rows j
      have hrl : (rows.take j).length = j := by rw [List.length_take]; omega
      have HLAW := Lib.hid (show evalR (rowsP v0 (rows.take j)) [] 200 = rowsEnd S ∧ evalC (rowsP v0 (rows.take j)) [] 200 = 0 from by rw [← eS]; exact rows_law HV0.out (by omega))
      rw [eS] at hSc ⊢
      clear eS
      obtain ⟨v, t, k⟩ := S
      simp only at hSc ⊢
      have b2 := below_alloc (Below.refl wr.heap.size wr) (.cells #[.int .i64 16, .int .i64 0] 28)
      have rN : RowAt 28 wr.heap.size (insV [⟨16, 0⟩]) (wr.alloc (.cells #[.int .i64 16, .int .i64 0] 28)) := RowAt.new 28 [.int .i64 16, .int .i64 0] wr
      have hsrc : Src Tryd.prog 2 29 (.slice (some ⟨wr.heap.size, 0, none⟩) 1 1) 1 (insV [⟨16, 0⟩]) (wr.alloc (.cells #[.int .i64 16, .int .i64 0] 28)) := code_src (xs := [⟨16, 0⟩]) Tryd.underlying29 (codeL rN (by simp))
      obtain ⟨ii, hi, hz0, hs2, hbb⟩ := info_parts info_ins
      obtain ⟨v', wn, hrun, hG⟩ := run_append_crow (P := Tryd.prog) (wr.alloc (.cells #[.int .i64 16, .int .i64 0] 28)) 29 28 29 29 ii _ 2 16 Tryd.underlying29 hi hz0 hs2 hbb rfl w1.heap.size ao (2 * j + 1) cap (insV (rowsH v0 (rows.take j))) (hc.below b2) (by have := b2.size; omega)
        (.slice (some ⟨wr.heap.size, 0, none⟩) 1 1) 1 (insV [⟨16, 0⟩]) hsrc (by omega) (by unfold maxLen; omega)
      have hrow := hG.row
      rw [← insV_app3] at hrow
      obtain ⟨ac, cc, rfl, _, _⟩ := hrow.shape
      have hlen : (rowsC v0 (rows.take j)).length = 2 * j + 1 + 1 := by rw [rowsC_len, hrl]
      have HSM := Lib.hid (show Calls Tryd.prog 29 #[.int .i64 0, .int .i64 0, .slice ac (2 * j + 1 + 1) cc] wn (ProgL (rowsP v0 (rows.take j)) 1 wn) from by
        have := small_any 0 0 ac cc (rowsC v0 (rows.take j)) wn (CRow.code hrow)
        rwa [hlen] at this)
      have BN := Lib.hid (Chg.below (below_trans hb b2) hG.chg (fun b e => by have := (hc.in_ b e).1; have := B1.out.size; omega))
      have HK := Lib.hid hSc
      have e4 : wrap64 (200 - k) = 200 - k := by unfold wrap64; omega
      have e5 : wrap64 (200 - k - 1) = 200 - k - 1 := by unfold wrap64; omega
      obtain ⟨t0, t1⟩ | ⟨t0, t1⟩ : (decide (j < rows.length) = false ∧ True) ∨ (decide (j < rows.length) = true ∧ decide ((j : Int) < 25) = false) := by
        by_cases h : j < rows.length
        · exact .inr ⟨decide_eq_true h, decide_eq_false (by omega)⟩
        · exact .inl ⟨decide_eq_false h, trivial⟩
      all_goals
        clear hc hb hsrc rN b2 hi hz0 hs2 hbb hG hrow hj h25 hsz hlt hSc hrl hlen
        go_wp2_with (first | (at_builtin; refine wpList_append_run _ rfl _ _ _ _ rfl _ _ _ _ rfl rfl hrun ?_) | fail)
        (with_reducible refine HSM.out.mono ?_)
        rintro e w3 ⟨g, rfl, hr3, hB3⟩
        have HP := Lib.hid hr3
        have BB := Lib.hid (below_trans BN.out hB3)
        clear hr3 hB3 HSM hrun
        cases t with
        | true =>
          have er : rowsEnd (v, true, k) = ⟨2, 0, [], 200 - k⟩ := rfl
          rw [er] at HLAW
          have H1 := Lib.hid (eval_m (p := rowsP v0 (rows.take j)) (fuel := 200) (cp := 1) (c := 0) (A := none) (HL.out.below BB.out) HP.out ⟨by simp, fun h => absurd h (by simp)⟩ (len1 _) len0 HLAW.out.1 HLAW.out.2 (n := 0) rfl)
          clear er
          go_wp2_with fail
          (with_reducible refine H1.out.mono ?_)
          rintro e w6 ⟨A6, c6, rfl, hc6, hR6, hB6, hlo6⟩
          simp only []
          obtain ⟨w7, hw7⟩ : ∃ w7, w6.alloc (.cells #[.int .i64 2, .int .i64 0, .slice A6 0 c6, .int .i64 (200 - k)] 61) = w7 := ⟨_, rfl⟩
          have b7 : Below w6.heap.size w6 w7 := hw7 ▸ below_alloc (Below.refl _ _) _
          have X := (hw7 ▸ RowAt.new _ _ w6 : RowAt 61 w6.heap.size [.int .i64 2, .int .i64 0, .slice A6 0 c6, .int .i64 (200 - k)] w7)
          have x0 := X.cell (k := 0) (by simp)
          have x1 := X.cell (k := 1) (by simp)
          have x2 := X.cell (k := 2) (by simp)
          have x3 := X.cell (k := 3) (by simp)
          simp only [List.getElem_cons_zero, List.getElem_cons_succ] at x0 x1 x2 x3
          have B7 := Lib.hid (below_trans BB.out (below_trans hB6 b7))
          have HS := Lib.hid (same_n (x := ⟨2, 0, [], 200 - k⟩) (y := ⟨2, 0, [], 200 - k⟩) (A := A6) (B := none) (c := c6) (d := 0) (n := 0) (m := 0) (b := true) (w := w7) (hR6.below b7) ⟨by simp, fun h => absurd h (by simp)⟩ rfl rfl (by simp))
          have HNUM := Lib.hid (fun (n : Int) (W : World) => numL_any n W)
          clear hR6 hB6 hlo6 hc6 b7 X H1
          go_wp2_with (first | (go_at_call 15; (with_reducible refine (HNUM.out _ _).mono ?_); rintro e wn ⟨rfl, rfl⟩) | (go_at_call 28; (with_reducible refine HS.out.mono ?_); rintro e wa ⟨rfl, hBa⟩; have HBA := Lib.hid hBa; clear hBa) | fail)
          go_ret
          exact ⟨rfl, below_trans B7.out HBA.out⟩
        | false =>
          have er : rowsEnd (v, false, k) = ⟨1, v, [], 200 - k - 1⟩ := rfl
          rw [er] at HLAW
          have H1 := Lib.hid (eval_m (p := rowsP v0 (rows.take j)) (fuel := 200) (cp := 1) (c := 0) (A := none) (HL.out.below BB.out) HP.out ⟨by simp, fun h => absurd h (by simp)⟩ (len1 _) len0 HLAW.out.1 HLAW.out.2 (n := 0) rfl)
          clear er
          go_wp2_with fail
          (with_reducible refine H1.out.mono ?_)
          rintro e w6 ⟨A6, c6, rfl, hc6, hR6, hB6, hlo6⟩
          simp only []
          obtain ⟨w7, hw7⟩ : ∃ w7, w6.alloc (.cells #[.int .i64 1, .int .i64 v, .slice A6 0 c6, .int .i64 (200 - k - 1)] 61) = w7 := ⟨_, rfl⟩
          have b7 : Below w6.heap.size w6 w7 := hw7 ▸ below_alloc (Below.refl _ _) _
          have X := (hw7 ▸ RowAt.new _ _ w6 : RowAt 61 w6.heap.size [.int .i64 1, .int .i64 v, .slice A6 0 c6, .int .i64 (200 - k - 1)] w7)
          have x0 := X.cell (k := 0) (by simp)
          have x1 := X.cell (k := 1) (by simp)
          have x2 := X.cell (k := 2) (by simp)
          have x3 := X.cell (k := 3) (by simp)
          simp only [List.getElem_cons_zero, List.getElem_cons_succ] at x0 x1 x2 x3
          have B7 := Lib.hid (below_trans BB.out (below_trans hB6 b7))
          have HS := Lib.hid (same_n (x := ⟨1, v, [], 200 - k - 1⟩) (y := ⟨1, v, [], 200 - k - 1⟩) (A := A6) (B := none) (c := c6) (d := 0) (n := 0) (m := 0) (b := true) (w := w7) (hR6.below b7) ⟨by simp, fun h => absurd h (by simp)⟩ rfl rfl (by simp))
          have HNUM := Lib.hid (fun (n : Int) (W : World) => numL_any n W)
          clear hR6 hB6 hlo6 hc6 b7 X H1
          go_wp2_with (first | (go_at_call 15; (with_reducible refine (HNUM.out _ _).mono ?_); rintro e wn ⟨rfl, rfl⟩) | (go_at_call 28; (with_reducible refine HS.out.mono ?_); rintro e wa ⟨rfl, hBa⟩; have HBA := Lib.hid hBa; clear hBa) | fail)
          go_ret
          exact ⟨rfl, below_trans B7.out HBA.out⟩
end Go.Proofs.YtpfgklkdldkajaaDoor
