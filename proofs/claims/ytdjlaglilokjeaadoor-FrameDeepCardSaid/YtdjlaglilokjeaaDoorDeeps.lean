/- The law FrameDeep, walked: as many frames as may be, each behind its call. Condition: errors.errorType is laid. -/
import Derived.Test.YtdjlaglilokjeaaDoorAwake6
import Derived.Test.YtdjlaglilokjeaaDoorNums
import Derived.Test.YtdjlaglilokjeaaDoorFPush
namespace Go.Proofs.YtdjlaglilokjeaaDoor
open Go.RowKit

def deepC : List Ins := [⟨1, 0⟩, ⟨14, 0⟩, ⟨16, 0⟩]
def deepP : List Fn := [⟨1, 1, deepC⟩]
def lowF (v : Int) : Frm := ⟨0, 2, [v], []⟩
def topF (v : Int) : Frm := ⟨0, 1, [v], [v]⟩
def deepS (n : Nat) (v : Int) : Stt := ⟨List.replicate n (lowF v) ++ [topF v], 3, [], 0, 0⟩
theorem deep_low {v : Int} (h : isNum v = true) : frameB deepP (lowF v) 1 = true ∧ behindB deepP 0 2 0 = true ∧ frameB deepP (topF v) 0 = true := by
  refine ⟨?_, by kernel_rfl, ?_⟩
  · unfold frameB lowF
    rw [show heightAt deepP 0 2 = 1 from by kernel_rfl, show localsAt deepP 0 = 1 from by kernel_rfl]
    simp [h]
  · unfold frameB topF
    rw [show heightAt deepP 0 1 = 1 from by kernel_rfl, show localsAt deepP 0 = 1 from by kernel_rfl]
    simp [h]
theorem deep_runs {v : Int} (h : isNum v = true) : ∀ n, runsFrom deepP (List.replicate n (lowF v) ++ [topF v]) = true
  | 0 => (deep_low h).2.2
  | 1 => by
    show (lessB deepP (lowF v) (topF v) && runsFrom deepP [topF v]) = true
    unfold lessB
    rw [(deep_low h).1, show behindB deepP (lowF v).fn (lowF v).pc (topF v).fn = true from (deep_low h).2.1]
    exact (deep_low h).2.2
  | n + 2 => by
    have := deep_runs h (n + 1)
    show (lessB deepP (lowF v) (lowF v) && runsFrom deepP (List.replicate (n + 1) (lowF v) ++ [topF v])) = true
    rw [this]
    unfold lessB
    rw [(deep_low h).1, show behindB deepP (lowF v).fn (lowF v).pc (lowF v).fn = true from (deep_low h).2.1]
    rfl
theorem deep_state {v : Int} (h : isNum v = true) (n : Nat) : stateB deepP (deepS n v) = decide ((n : Int) + 1 ≤ 12) := by
  unfold stateB deepS runsB
  rw [show verifyOf deepP = 0 from by kernel_rfl]
  simp only [deep_runs h]
  simp
  omega
theorem refWrap_any (n : Int) (w : World) : Calls Tryd.prog 31 #[.int .i64 n] w fun e w' => (∃ v, e = .returned (.int .i64 v) ∧ isNum v = true) ∧ w' = w := by
  obtain ⟨v, hv, hn⟩ := num_32 n
  have HN := Lib.hid hn
  clear hn
  go_enter Tryd.func31, Tryd.ntmps31
  go_wp2
  go_ret
  exact ⟨⟨_, rfl, by rw [hv]; exact HN.out⟩, rfl⟩
set_option maxRecDepth 100000 in
set_option maxHeartbeats 8000000 in
theorem frameDeep_yes (many value : Int) (W : World) (hl : Laid W) : Calls Tryd.prog 11 #[.int .i64 many, .int .i64 value] W (Ret (.bool true) W) := by
  have H := Lib.hid (awake6_any W hl)
  have HL := Lib.hid hl
  have B := Lib.hid (Below.refl W.heap.size W)
  obtain ⟨m, hm, hm15⟩ : ∃ m : Nat, bits .and .i64 many 15 = m ∧ m ≤ 15 := ⟨(many % 16).toNat, by rw [i64_m15]; omega, by omega⟩
  clear hl
  go_enter Tryd.func11, Tryd.ntmps11
  go_wp2_with fail
  (with_reducible refine H.out.mono ?_)
  rintro e w1 ⟨rfl, hB⟩
  clear H
  replace HL := Lib.hid (HL.out.below hB)
  replace B := Lib.hid (below_trans B.out hB)
  clear hB
  have hb : Below w1.heap.size w1 (w1.alloc (.cells #[.int .i64 1, .int .i64 0, .int .i64 14, .int .i64 0, .int .i64 16, .int .i64 0] 44)) := allocsL_below [.cells #[.int .i64 1, .int .i64 0, .int .i64 14, .int .i64 0, .int .i64 16, .int .i64 0] 44] w1
  replace HL := Lib.hid (HL.out.below hb)
  replace B := Lib.hid (below_trans B.out hb)
  have C := Lib.hid (show RowAt 44 (w1.heap.size) [.int .i64 1, .int .i64 0, .int .i64 14, .int .i64 0, .int .i64 16, .int .i64 0] (w1.alloc (.cells #[.int .i64 1, .int .i64 0, .int .i64 14, .int .i64 0, .int .i64 16, .int .i64 0] 44)) from rowL (w := w1) (os := [.cells #[.int .i64 1, .int .i64 0, .int .i64 14, .int .i64 0, .int .i64 16, .int .i64 0] 44]) (i := 0) (cs := [.int .i64 1, .int .i64 0, .int .i64 14, .int .i64 0, .int .i64 16, .int .i64 0]) (by simp) rfl)
  clear hb
  have H := Lib.hid (small_any 1 1 (some ⟨w1.heap.size, 0, none⟩) 3 deepC (w1.alloc (.cells #[.int .i64 1, .int .i64 0, .int .i64 14, .int .i64 0, .int .i64 16, .int .i64 0] 44)) (codeL (xs := deepC) C.out (by simp [deepC])))
  rw [show deepC.length = 3 from rfl] at H
  clear C
  go_wp2_with fail
  (with_reducible refine H.out.mono ?_)
  rintro e w2 ⟨g, rfl, hr, hB⟩
  clear H hm
  replace HL := Lib.hid (HL.out.below hB)
  replace B := Lib.hid (below_trans B.out hB)
  have RP := Lib.hid ((show ReadsF w2 (some ⟨g, 0, none⟩) deepP from hr))
  clear hB hr
  have hb : Below w2.heap.size w2 (w2.alloc (.cells #[.slice (some ⟨g, 0, none⟩) 1 1] 24)) := allocsL_below [.cells #[.slice (some ⟨g, 0, none⟩) 1 1] 24] w2
  replace HL := Lib.hid (HL.out.below hb)
  replace B := Lib.hid (below_trans B.out hb)
  replace RP := Lib.hid (RP.out.below hb)
  have P := Lib.hid (show RowAt 24 (w2.heap.size) [.slice (some ⟨g, 0, none⟩) 1 1] (w2.alloc (.cells #[.slice (some ⟨g, 0, none⟩) 1 1] 24)) from rowL (w := w2) (os := [.cells #[.slice (some ⟨g, 0, none⟩) 1 1] 24]) (i := 0) (cs := [.slice (some ⟨g, 0, none⟩) 1 1]) (by simp) rfl)
  clear hb
  go_wp2_with fail
  (with_reducible refine (refWrap_any _ _).mono ?_)
  rintro e w3 ⟨⟨v, rfl, hv⟩, rfl⟩
  have HV := Lib.hid hv
  clear hv
  generalize hw3 : (w2.alloc (.cells #[.slice (some ⟨g, 0, none⟩) 1 1] 24)) = w3 at *
  clear hw3
  have BL := Lib.hid (Below.refl w3.heap.size w3)
  have b4 := below_alloc (Below.refl w3.heap.size w3) (.cells #[.slice none 0 0, .int .i64 3, .slice none 0 0, .int .i64 0, .int .i64 0] 56)
  have S := Lib.hid (RowAt.new 56 [.slice none 0 0, .int .i64 3, .slice none 0 0, .int .i64 0, .int .i64 0] w3)
  have B4 := Lib.hid b4
  clear b4
  go_wp2_with fail
  go_loopw [9] (fun i wr => ∃ (n : Nat) (u : Value) (vss : List (List Value)), i = .int .i64 n ∧ n ≤ m ∧ OwnFr wr (w3.heap.size + 1) u (List.replicate n (lowF v)) vss ∧ RowAt 56 w3.heap.size [u, .int .i64 3, .slice none 0 0, .int .i64 0, .int .i64 0] wr ∧ Below w3.heap.size w3 wr ∧ w3.heap.size + 1 ≤ wr.heap.size) (fun i _ => m - (intOf i).toNat)
  case atStart => exact ⟨0, _, _, rfl, Nat.zero_le _, OwnG.nil _ _ _, S.out, B4.out, by simp⟩
  case round =>
    obtain ⟨n, u, vss, rfl, hn, how, h2, hb, hsz⟩ := hrel
    have HB := Lib.hid hb
    clear hb S B4 BL
    have q0 : (1 + (m : Int) - 1) = m := by omega
    by_cases hlt : n < m
    · skip
      obtain ⟨wG, hwG⟩ : ∃ wG, (wr.alloc (.cells #[.int .i64 v] 3)).alloc (.cells #[.int .i64 0, .int .i64 2, .slice (some ⟨wr.heap.size, 0, none⟩) 1 1, .slice none 0 0] 61) = wG := ⟨_, rfl⟩
      have bG : Below wr.heap.size wr wG := hwG ▸ allocsL_below [.cells #[.int .i64 v] 3, .cells #[.int .i64 0, .int .i64 2, .slice (some ⟨wr.heap.size, 0, none⟩) 1 1, .slice none 0 0] 61] wr
      have rA : RowAt 3 wr.heap.size (intsV [v]) wG := hwG ▸ rowL (w := wr) (os := [.cells #[.int .i64 v] 3, .cells #[.int .i64 0, .int .i64 2, .slice (some ⟨wr.heap.size, 0, none⟩) 1 1, .slice none 0 0] 61]) (i := 0) (cs := [.int .i64 v]) (by simp) rfl
      have rF : RowAt 61 (wr.heap.size + 1) (frC (lowF v) (.slice (some ⟨wr.heap.size, 0, none⟩) 1 1) (.slice none 0 0)) wG := hwG ▸ rowL (w := wr) (os := [.cells #[.int .i64 v] 3, .cells #[.int .i64 0, .int .i64 2, .slice (some ⟨wr.heap.size, 0, none⟩) 1 1, .slice none 0 0] 61]) (i := 1) (cs := frC (lowF v) (.slice (some ⟨wr.heap.size, 0, none⟩) 1 1) (.slice none 0 0)) (by simp) rfl
      have hsrc : Src Tryd.prog 4 54 (.slice (some ⟨wr.heap.size + 1, 0, none⟩) 1 1) 1 (frC (lowF v) (.slice (some ⟨wr.heap.size, 0, none⟩) 1 1) (.slice none 0 0)) wG := frame_src rF
      have howG := OwnG.below how bG
      have hrow := howG.row
      have hold := fun u hu x hx => (how.lo u hu x hx).2
      have hsG := h2.below bG
      have c0 := h2.cell (k := 0) (by simp)
      simp only [List.getElem_cons_zero] at c0
      obtain ⟨i0, hi0, hz0, hs0, hb0⟩ := info_parts info_frame
      have HI0 := Lib.hid hi0
      have HZ0 := Lib.hid hz0
      have HS0 := Lib.hid hs0
      have HBY := Lib.hid hb0
      simp only [List.length_replicate] at hrow
      have HROW := Lib.hid hrow
      have HSRC := Lib.hid hsrc
      have HOWG := Lib.hid howG
      have HOLD := Lib.hid hold
      have HSG := Lib.hid hsG
      have BG := Lib.hid bG
      have HVLO := Lib.hid (show ∀ x, ob u = some x → w3.heap.size + 1 ≤ x from fun x hx => (how.lo u (by simp) x hx).1)
      have RA := Lib.hid rA
      clear hi0 hz0 hs0 hb0 hrow hsrc howG hold hsG bG how h2 rA rF
      go_wp2_with (at_builtin; refine wpList_append_crow _ rfl _ _ 54 54 61 rfl i0 _ 4 64 Tryd.underlying54 HI0.out HZ0.out HS0.out HBY.out rfl (w3.heap.size + 1) u n _ rfl HROW.out ?a1 _ 1 _ rfl HSRC.out ?a2 ?a3 ?_; rotate_left 3; intro v' wH hG; obtain ⟨ao', cap', hv', hle', hmx'⟩ := hG.row.shape; subst hv'; have t2 := HSG.out.chg hG.chg (fun e => by have := HVLO.out _ e; omega); have T1 := t2.cell (k := 0) (by simp); have T2 := t2.free 0; simp only [List.getElem_cons_zero] at T1; have HG := Lib.hid hG; have HT2 := Lib.hid t2; clear hG t2)
      case a1 => have := BG.out.size; omega
      case a2 => omega
      case a3 => unfold maxLen; omega
      have hG := HG.out
      have grow := OwnFr.push (f := lowF v) HOWG.out (by simp) hG (innI_new (xs := [v]) RA.out (by omega) rfl (by decide)) (innI_nil _ _) HOLD.out (fun x hx => by have := ob_new hx; omega) (fun x hx => by cases hx) (fun x hx hx2 => by cases hx2)
      have kI : Chg (fun b => b = w3.heap.size) wH (wH.setCell ⟨w3.heap.size, 0, none⟩ (.slice ao' (n + 1) cap')) := Chg.put (S := fun b => b = w3.heap.size) (Chg.refl _ wH) (a := ⟨w3.heap.size, 0, none⟩) rfl _
      have F1 := OwnG.chg grow kI (fun u hu b hb e => by have := (OwnG.lo grow u hu b hb).1; omega)
      have F4 := HT2.out.put 0 (.slice ao' (n + 1) cap')
      simp only [List.set_cons_zero] at F4
      have F5 := Below.setCell ((hG.chg.below (below_trans HB.out BG.out) (fun b hb => by have := HVLO.out b hb; omega))) (p := ⟨w3.heap.size, 0, none⟩) (Nat.le_refl _) (.slice ao' (n + 1) cap')
      have F6 : w3.heap.size + 1 ≤ (wH.setCell ⟨w3.heap.size, 0, none⟩ (.slice ao' (n + 1) cap')).heap.size := by have h1 := hG.kept.size; have := BG.out.size; simp; omega
      rw [show List.replicate n (lowF v) ++ [lowF v] = List.replicate (n + 1) (lowF v) from (List.replicate_succ' (n := n) (a := lowF v)).symm] at F1
      have HF := Lib.hid (And.intro F1 (And.intro F4 (And.intro F5 F6)))
      clear F1 F4 F5 F6 hG grow kI T1 T2
      go_wp2_with fail
      go_roundw
      case rel => exact ⟨n + 1, _, _, by go_num, by omega, HF.out.1, HF.out.2.1, HF.out.2.2.1, HF.out.2.2.2⟩
      case measure => simp only [intOf]; omega
    · obtain rfl : n = m := by omega
      obtain ⟨wG, hwG⟩ : ∃ wG, ((wr.alloc (.cells #[.int .i64 v] 3)).alloc (.cells #[.int .i64 v] 3)).alloc (.cells #[.int .i64 0, .int .i64 1, .slice (some ⟨wr.heap.size, 0, none⟩) 1 1, .slice (some ⟨wr.heap.size + 1, 0, none⟩) 1 1] 61) = wG := ⟨_, rfl⟩
      have bG : Below wr.heap.size wr wG := hwG ▸ allocsL_below [.cells #[.int .i64 v] 3, .cells #[.int .i64 v] 3, .cells #[.int .i64 0, .int .i64 1, .slice (some ⟨wr.heap.size, 0, none⟩) 1 1, .slice (some ⟨wr.heap.size + 1, 0, none⟩) 1 1] 61] wr
      have rA : RowAt 3 wr.heap.size (intsV [v]) wG := hwG ▸ rowL (w := wr) (os := [.cells #[.int .i64 v] 3, .cells #[.int .i64 v] 3, .cells #[.int .i64 0, .int .i64 1, .slice (some ⟨wr.heap.size, 0, none⟩) 1 1, .slice (some ⟨wr.heap.size + 1, 0, none⟩) 1 1] 61]) (i := 0) (cs := [.int .i64 v]) (by simp) rfl
      have rB : RowAt 3 (wr.heap.size + 1) (intsV [v]) wG := hwG ▸ rowL (w := wr) (os := [.cells #[.int .i64 v] 3, .cells #[.int .i64 v] 3, .cells #[.int .i64 0, .int .i64 1, .slice (some ⟨wr.heap.size, 0, none⟩) 1 1, .slice (some ⟨wr.heap.size + 1, 0, none⟩) 1 1] 61]) (i := 1) (cs := [.int .i64 v]) (by simp) rfl
      have rF : RowAt 61 (wr.heap.size + 1 + 1) (frC (topF v) (.slice (some ⟨wr.heap.size, 0, none⟩) 1 1) (.slice (some ⟨wr.heap.size + 1, 0, none⟩) 1 1)) wG := hwG ▸ rowL (w := wr) (os := [.cells #[.int .i64 v] 3, .cells #[.int .i64 v] 3, .cells #[.int .i64 0, .int .i64 1, .slice (some ⟨wr.heap.size, 0, none⟩) 1 1, .slice (some ⟨wr.heap.size + 1, 0, none⟩) 1 1] 61]) (i := 2) (cs := frC (topF v) (.slice (some ⟨wr.heap.size, 0, none⟩) 1 1) (.slice (some ⟨wr.heap.size + 1, 0, none⟩) 1 1)) (by simp) rfl
      have hsrc : Src Tryd.prog 4 54 (.slice (some ⟨wr.heap.size + 1 + 1, 0, none⟩) 1 1) 1 (frC (topF v) (.slice (some ⟨wr.heap.size, 0, none⟩) 1 1) (.slice (some ⟨wr.heap.size + 1, 0, none⟩) 1 1)) wG := frame_src rF
      have howG := OwnG.below how bG
      have hrow := howG.row
      have hold := fun u hu x hx => (how.lo u hu x hx).2
      have hsG := h2.below bG
      have c0 := h2.cell (k := 0) (by simp)
      simp only [List.getElem_cons_zero] at c0
      obtain ⟨i0, hi0, hz0, hs0, hb0⟩ := info_parts info_frame
      have HI0 := Lib.hid hi0
      have HZ0 := Lib.hid hz0
      have HS0 := Lib.hid hs0
      have HBY := Lib.hid hb0
      simp only [List.length_replicate] at hrow
      have HROW := Lib.hid hrow
      have HSRC := Lib.hid hsrc
      have HOWG := Lib.hid howG
      have HOLD := Lib.hid hold
      have HSG := Lib.hid hsG
      have BG := Lib.hid bG
      have HVLO := Lib.hid (show ∀ x, ob u = some x → w3.heap.size + 1 ≤ x from fun x hx => (how.lo u (by simp) x hx).1)
      have RA := Lib.hid rA
      have RB := Lib.hid rB
      clear hi0 hz0 hs0 hb0 hrow hsrc howG hold hsG bG how h2 rA rB rF
      go_upto_region 12 with (at_builtin; refine wpList_append_crow _ rfl _ _ 54 54 61 rfl i0 _ 4 64 Tryd.underlying54 HI0.out HZ0.out HS0.out HBY.out rfl (w3.heap.size + 1) u n _ rfl HROW.out ?b1 _ 1 _ rfl HSRC.out ?b2 ?b3 ?_; rotate_left 3; intro v' wH hG; obtain ⟨ao', cap', hv', hle', hmx'⟩ := hG.row.shape; subst hv'; have t2 := HSG.out.chg hG.chg (fun e => by have := HVLO.out _ e; omega); have T1 := t2.cell (k := 0) (by simp); have T2 := t2.free 0; simp only [List.getElem_cons_zero] at T1; have HG := Lib.hid hG; have HT2 := Lib.hid t2; clear hG t2)
      case b1 => have := BG.out.size; omega
      case b2 => omega
      case b3 => unfold maxLen; omega
      have hG := HG.out
      have grow := OwnFr.push (f := topF v) HOWG.out (by simp) hG (innI_new (xs := [v]) RA.out (by omega) rfl (by decide)) (innI_new (xs := [v]) RB.out (by omega) rfl (by decide)) HOLD.out (fun x hx => by have := ob_new hx; omega) (fun x hx => by have := ob_new hx; omega) (fun x hx hx2 => by have h1 := ob_new hx; have h2 := ob_new hx2; omega)
      have kI : Chg (fun b => b = w3.heap.size) wH (wH.setCell ⟨w3.heap.size, 0, none⟩ (.slice ao' (n + 1) cap')) := Chg.put (S := fun b => b = w3.heap.size) (Chg.refl _ wH) (a := ⟨w3.heap.size, 0, none⟩) rfl _
      have F1 := OwnG.chg grow kI (fun u hu b hb e => by have := (OwnG.lo grow u hu b hb).1; omega)
      have F4 := HT2.out.put 0 (.slice ao' (n + 1) cap')
      simp only [List.set_cons_zero] at F4
      have F5 := Below.setCell ((hG.chg.below (below_trans HB.out BG.out) (fun b hb => by have := HVLO.out b hb; omega))) (p := ⟨w3.heap.size, 0, none⟩) (Nat.le_refl _) (.slice ao' (n + 1) cap')
      have F6 : w3.heap.size + 1 ≤ (wH.setCell ⟨w3.heap.size, 0, none⟩ (.slice ao' (n + 1) cap')).heap.size := by have h1 := hG.kept.size; have := BG.out.size; simp; omega
      have HF := Lib.hid (And.intro F1 (And.intro F4 F5))
      clear F1 F4 F5 F6 hG grow kI T1 T2
      generalize hwI : wH.setCell ⟨w3.heap.size, 0, none⟩ (.slice ao' (n + 1) cap') = wI at *
      clear hwI
      have bI := HF.out.2.2
      have k := five HF.out.2.1
      obtain ⟨k0, k1, k2, k3, k4⟩ := k
      have kP := row_cell (P.out.below bI)
      have hrd := (OwnFr.reads HF.out.1).2
      have HS := Lib.hid (state_any deepP (some ⟨g, 0, none⟩) ao' none 1 cap' 0 (deepS n v) wI (HL.out.below bI) (RP.out.below bI) hrd (by simp [deepS]; omega) (reads_nil _ _))
      rw [deep_state HV.out n, show sttV (deepS n v) (.slice ao' (deepS n v).frames.length cap') (.slice none (deepS n v).out.length 0) = .agg #[.slice ao' (n + 1) cap', .int .i64 3, .slice none 0 0, .int .i64 0, .int .i64 0] by unfold sttV deepS; simp, show deepP.length = 1 from rfl] at HS
      have BI := Lib.hid (below_trans B.out bI)
      have dd : decide ((n : Int) + 1 ≤ 12) = decide (1 + (n : Int) ≤ 12) := by rw [Int.add_comm]
      rw [dd] at HS
      clear bI hrd dd
      go_wp2_with fail
      (with_reducible refine HS.out.mono ?_)
      rintro e w9 ⟨rfl, hb9⟩
      go_wp2_with fail
      go_ret
      exact ret_tail (by simp) BI.out hb9
end Go.Proofs.YtdjlaglilokjeaaDoor
