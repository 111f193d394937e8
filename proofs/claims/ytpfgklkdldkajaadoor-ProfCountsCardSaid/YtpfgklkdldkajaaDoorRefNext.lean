/- The document's 'Next', at a pc that there is, of code that may be: the same list. Conditions: the function's code lies in memory as it is said. -/
import Derived.Test.YtpfgklkdldkajaaDoorNexts
import Derived.Test.YtpfgklkdldkajaaDoorQueue
import Derived.Deep.Cut
namespace Go.Proofs.YtpfgklkdldkajaaDoor
open Go.RowKit

set_option maxRecDepth 100000 in
set_option maxHeartbeats 4000000 in
theorem rnext_any (f : Fn) (A : Option Addr) (c : Nat) (pc : Nat) (w : World) (hr : ReadsC w A f.code) (hm : codeMay f.code = true) (hpc : pc < f.code.length) :
    Calls Tryd.prog 73 #[fnV f A c, .int .i64 pc] w (ListsE (nextOf f.code.length pc f.code[pc]) 0 w) := by
  have b1 : Below w.heap.size w (w.alloc (.cells #[.int .i64 f.args, .int .i64 f.locals, .slice A f.code.length c] 31)) := below_alloc (Below.refl _ _) _
  have hF := fnAt_new f A c w hr
  have HM := Lib.hid (rfuncMay_any f A c _ (hr.below b1))
  rw [hm] at HM
  have hn : f.code.length ≤ 9223372036854775807 := hr.1
  have h64 : f.code.length ≤ 64 := by unfold codeMay at hm; simp only [Bool.and_eq_true, decide_eq_true_eq] at hm; omega
  have HF := Lib.hid hF
  have d1 : decide ((pc : Int) < 0) = false := by simp
  have d2 : decide (f.code.length ≤ pc) = false := by simpa using hpc
  clear hr hF hm
  obtain ⟨x, hx⟩ : ∃ x, f.code[pc] = x := ⟨_, rfl⟩
  rw [hx]
  obtain ⟨k, a⟩ := x
  unfold fnV at HM ⊢
  go_enter Tryd.func73, Tryd.ntmps73
  go_wp2_with fail
  refine HM.out.mono ?_
  rintro e w2 ⟨rfl, hB⟩
  have hF2 := HF.out.below hB
  have c2 := hF2.c2
  obtain ⟨ad, rfl, i0, i1⟩ := hF2.r.at_ (Below.refl _ _) hpc
  rw [hx] at i0 i1
  have B2 := Lib.hid (below_trans b1 hB)
  clear hF2 hB b1 HF HM
  have c3 : (w2.alloc (.cells #[.int .i64 k, .int .i64 a] 28)).cell? ⟨w.heap.size, 2, none⟩ = some (.slice (some ad) f.code.length c) := Lib.cell?_alloc_some _ c2
  have bw : Below w2.heap.size w2 (w2.alloc (.cells #[.int .i64 k, .int .i64 a] 28)) := below_alloc (Below.refl _ _) _
  have hsz := B2.out.size
  go_upto_region 5 with fail
  by_cases hs : k ≠ 16 ∧ k ≠ 12 ∧ pc + 1 < f.code.length
  · obtain ⟨k16, k12, hp⟩ := hs
    have e16 : (k != 16) = true := by simpa using k16
    have e12 : (k != 12) = true := by simpa using k12
    have ep : decide ((pc : Int) + 1 < f.code.length) = true := by simp; omega
    have d12 : (k == 12) = false := by simpa using k12
    go_upto_region 7 with (first | (at_builtin; refine wpList_append_q _ rfl _ _ rfl w.heap.size _ _ rfl (QRow.nil _ _) ?c1 _ 1 1 [(pc : Int) + 1] rfl rfl (by decide) ?c2 ?c3 ?_; rotate_left 3; intro v' w5 hG) | fail)
    case c1 => simp; omega
    case c2 =>
      intro i hi
      obtain rfl : i = 0 := by simpa using hi
      have := blk_new (w2.alloc (.cells #[.int .i64 k, .int .i64 a] 28)) (.cells #[.int .i64 ((pc : Int) + 1)] 3)
      rw [show (w2.alloc (.cells #[.int .i64 k, .int .i64 a] 28)).heap.size = w2.heap.size + 1 by simp] at this
      rw [add_plain]; exact (blk_cell this 0).trans rfl
    case c3 => simp
    replace hG : Grew ((w2.alloc (.cells #[.int .i64 k, .int .i64 a] 28)).alloc (.cells #[.int .i64 ((pc : Int) + 1)] 3)) w.heap.size (.slice none 0 0) [(pc : Int) + 1] v' w5 := hG
    have hk5 : Below w.heap.size w w5 := (below_trans B2.out (below_alloc bw _)).grown hG.kept (by simp; omega) (fun k hk => by cases hk)
    have k0 : w5.cell? ⟨w2.heap.size, 0, none⟩ = some (.int .i64 k) := hG.kept.cell (Lib.cell?_alloc_some _ ((blk_cell (blk_new w2 _) 0).trans rfl)) (by simp [Value.ownBlock])
    have k1 : w5.cell? ⟨w2.heap.size, 1, none⟩ = some (.int .i64 a) := hG.kept.cell (Lib.cell?_alloc_some _ ((blk_cell (blk_new w2 _) 1).trans rfl)) (by simp [Value.ownBlock])
    have k2 : w5.cell? ⟨w.heap.size, 2, none⟩ = some (.slice (some ad) f.code.length c) := hG.kept.cell (Lib.cell?_alloc_some _ c3) (by simp [Value.ownBlock])
    have hrow := hG.row
    obtain ⟨ao, cap, rfl, hrd⟩ := hrow.reads
    obtain ⟨a5, rfl, o0⟩ := hrd.at_ (k := 0) (by simp)
    rw [add_nil] at o0
    have HROW := Lib.hid hrow
    have HRD := Lib.hid hrd
    have B5 := Lib.hid hk5
    clear hrow hrd hk5 hG c3 bw
    by_cases k13 : k = 13
    · subst k13
      by_cases ha : a < f.code.length
      · have da : decide (a < (f.code.length : Int)) = true := by simpa using ha
        by_cases hx : (pc : Int) + 1 = a
        · have de : ((pc : Int) + 1 != a) = false := by simpa using hx
          go_quiet (fail)
          go_wp2_with fail
          go_ret2
          have el : nextOf f.code.length pc ⟨13, a⟩ = [(pc : Int) + 1] := by unfold nextOf; simp [hp]; intro _; exact hx
          rw [el]
          exact ⟨_, _, rfl, HRD.out.below (below_drew (Below.refl _ _) _), below_drew B5.out _, fun a e => HROW.out.lo _ (by cases e; rfl)⟩
        · have de : ((pc : Int) + 1 != a) = true := by simpa using hx
          go_quiet (fail)
          go_wp2_with (first | (at_builtin; refine wpList_append_q _ rfl _ _ rfl w.heap.size _ _ rfl (HROW.out.below (below_alloc (below_drew (Below.refl _ _) _) _)) ?c7 _ 1 1 [a] rfl rfl (by decide) ?c8 ?c9 ?_; rotate_left 3; intro v' w6 hG) | fail)
          case c7 => have := B5.out.size; simp; omega
          case c8 =>
            intro i hi
            obtain rfl : i = 0 := by simpa using hi
            have := blk_new (w5.drewN nq) (.cells #[.int .i64 a] 3)
            rw [add_plain]; exact (blk_cell this 0).trans rfl
          case c9 => simp
          replace hG : Grew ((w5.drewN nq).alloc (.cells #[.int .i64 a] 3)) w.heap.size (.slice (some a5) [(pc : Int) + 1].length cap) ([(pc : Int) + 1] ++ [a]) v' w6 := hG
          have hrow := hG.row
          have hlo6 := hrow.lo
          obtain ⟨ao6, cap6, rfl, hrd6⟩ := hrow.reads
          have B6 := Lib.hid ((below_alloc (below_drew B5.out nq) (.cells #[.int .i64 a] 3)).grown hG.kept (by have := B5.out.size; simp; omega) (HROW.out.lo))
          have HL6 := Lib.hid hlo6
          have HR6 := Lib.hid hrd6
          clear hG hrow hlo6 hrd6
          go_wp2_with fail
          go_ret2
          have el : nextOf f.code.length pc ⟨13, a⟩ = [(pc : Int) + 1] ++ [a] := by unfold nextOf; simp [hp, hx, ha]
          rw [el]
          exact ⟨_, _, rfl, HR6.out, B6.out, fun a e => HL6.out _ (by cases e; rfl)⟩
      · have da : decide (a < (f.code.length : Int)) = false := by simpa using ha
        go_quiet (fail)
        go_wp2_with fail
        go_ret2
        have el : nextOf f.code.length pc ⟨13, a⟩ = [(pc : Int) + 1] := by unfold nextOf; simp [hp]; omega
        rw [el]
        exact ⟨_, _, rfl, HRD.out.below (below_drew (Below.refl _ _) _), below_drew B5.out _, fun a e => HROW.out.lo _ (by cases e; rfl)⟩
    · have d13 : (k == 13) = false := by simpa using k13
      go_quiet (fail)
      go_wp2_with fail
      go_ret2
      have el : nextOf f.code.length pc ⟨k, a⟩ = [(pc : Int) + 1] := by unfold nextOf; simp [k16, k12, hp, k13]
      rw [el]
      exact ⟨_, _, rfl, HRD.out.below (below_drew (Below.refl _ _) _), below_drew B5.out _, fun a e => HROW.out.lo _ (by cases e; rfl)⟩
  · by_cases k16 : k = 16
    · subst k16
      go_upto_region 7 with fail
      go_quiet (fail)
      go_wp2_with fail
      go_ret2
      have el : nextOf f.code.length pc ⟨16, a⟩ = [] := by unfold nextOf; first | (simp; done) | (simp; omega) | (simp_all; done) | (simp_all; omega)
      rw [el]
      exact ⟨_, _, rfl, reads_nil _ _, below_drew (below_trans B2.out bw) _, fun a e => by cases e⟩
    have e16 : (k != 16) = true := by simpa using k16
    by_cases k12 : k = 12
    · subst k12
      go_upto_region 7 with fail
      by_cases ha : a < (f.code.length : Int)
      · have da : decide (a < (f.code.length : Int)) = true := by simpa using ha
        go_quiet (fail)
        go_wp2_with (first | (at_builtin; refine wpList_append_q _ rfl _ _ rfl w.heap.size _ _ rfl (QRow.nil _ _) ?cA2 _ 1 1 [a] rfl rfl (by decide) ?cB2 ?cC2 ?_; rotate_left 3; intro v' w6 hG) | fail)
        case cA2 => simp; omega
        case cB2 =>
          intro i hi
          obtain rfl : i = 0 := by simpa using hi
          have := blk_new ((w2.alloc (.cells #[.int .i64 12, .int .i64 a] 28)).drewN nq) (.cells #[.int .i64 a] 3)
          rw [show ((w2.alloc (.cells #[.int .i64 12, .int .i64 a] 28)).drewN nq).heap.size = w2.heap.size + 1 by simp] at this
          rw [add_plain]; exact (blk_cell this 0).trans rfl
        case cC2 => simp
        replace hG : Grew (((w2.alloc (.cells #[.int .i64 12, .int .i64 a] 28)).drewN nq).alloc (.cells #[.int .i64 a] 3)) w.heap.size (.slice none 0 0) [a] v' w6 := hG
        have hrow := hG.row
        have hlo6 := hrow.lo
        obtain ⟨ao6, cap6, rfl, hrd6⟩ := hrow.reads
        have B6 := Lib.hid ((below_alloc (below_drew (below_trans B2.out bw) nq) (.cells #[.int .i64 a] 3)).grown hG.kept (by simp; omega) (fun k hk => by cases hk))
        have HL6 := Lib.hid hlo6
        have HR6 := Lib.hid hrd6
        clear hG hrow hlo6 hrd6
        go_wp2_with fail
        go_ret2
        have el : nextOf f.code.length pc ⟨12, a⟩ = [a] := by unfold nextOf; first | (simp; done) | (simp; omega) | (simp_all; done) | (simp_all; omega)
        rw [el]
        exact ⟨_, _, rfl, HR6.out, B6.out, fun a e => HL6.out _ (by cases e; rfl)⟩
      · have da : decide (a < (f.code.length : Int)) = false := by simpa using ha
        go_quiet (fail)
        go_wp2_with fail
        go_ret2
        have el : nextOf f.code.length pc ⟨12, a⟩ = [] := by unfold nextOf; first | (simp; done) | (simp; omega) | (simp_all; done) | (simp_all; omega)
        rw [el]
        exact ⟨_, _, rfl, reads_nil _ _, below_drew (below_trans B2.out bw) _, fun a e => by cases e⟩
    have e12 : (k != 12) = true := by simpa using k12
    have d12 : (k == 12) = false := by simpa using k12
    have hp : ¬ pc + 1 < f.code.length := fun h => hs ⟨k16, k12, h⟩
    have ep : decide ((pc : Int) + 1 < f.code.length) = false := by simp; omega
    go_upto_region 7 with fail
    by_cases k13 : k = 13
    · subst k13
      by_cases ha : a < (f.code.length : Int)
      · have da : decide (a < (f.code.length : Int)) = true := by simpa using ha
        go_quiet (fail)
        go_wp2_with (first | (at_builtin; refine wpList_append_q _ rfl _ _ rfl w.heap.size _ _ rfl (QRow.nil _ _) ?cA4 _ 1 1 [a] rfl rfl (by decide) ?cB4 ?cC4 ?_; rotate_left 3; intro v' w6 hG) | fail)
        case cA4 => simp; omega
        case cB4 =>
          intro i hi
          obtain rfl : i = 0 := by simpa using hi
          have := blk_new ((w2.alloc (.cells #[.int .i64 13, .int .i64 a] 28)).drewN nq) (.cells #[.int .i64 a] 3)
          rw [show ((w2.alloc (.cells #[.int .i64 13, .int .i64 a] 28)).drewN nq).heap.size = w2.heap.size + 1 by simp] at this
          rw [add_plain]; exact (blk_cell this 0).trans rfl
        case cC4 => simp
        replace hG : Grew (((w2.alloc (.cells #[.int .i64 13, .int .i64 a] 28)).drewN nq).alloc (.cells #[.int .i64 a] 3)) w.heap.size (.slice none 0 0) [a] v' w6 := hG
        have hrow := hG.row
        have hlo6 := hrow.lo
        obtain ⟨ao6, cap6, rfl, hrd6⟩ := hrow.reads
        have B6 := Lib.hid ((below_alloc (below_drew (below_trans B2.out bw) nq) (.cells #[.int .i64 a] 3)).grown hG.kept (by simp; omega) (fun k hk => by cases hk))
        have HL6 := Lib.hid hlo6
        have HR6 := Lib.hid hrd6
        clear hG hrow hlo6 hrd6
        go_wp2_with fail
        go_ret2
        have el : nextOf f.code.length pc ⟨13, a⟩ = [a] := by unfold nextOf; dsimp only; first | (rw [if_neg (fun h => hp h.2.2), if_pos ⟨by simp, ha, by simp⟩]; rfl) | (simp; done) | (simp; omega) | (simp_all; done) | (simp_all; omega)
        rw [el]
        exact ⟨_, _, rfl, HR6.out, B6.out, fun a e => HL6.out _ (by cases e; rfl)⟩
      · have da : decide (a < (f.code.length : Int)) = false := by simpa using ha
        go_quiet (fail)
        go_wp2_with fail
        go_ret2
        have el : nextOf f.code.length pc ⟨13, a⟩ = [] := by unfold nextOf; dsimp only; first | (rw [if_neg (fun h => hp h.2.2), if_neg (fun h => ha h.2.1)]; rfl) | (simp; done) | (simp; omega) | (simp_all; done) | (simp_all; omega)
        rw [el]
        exact ⟨_, _, rfl, reads_nil _ _, below_drew (below_trans B2.out bw) _, fun a e => by cases e⟩
    · have d13 : (k == 13) = false := by simpa using k13
      go_quiet (fail)
      go_wp2_with fail
      go_ret2
      have el : nextOf f.code.length pc ⟨k, a⟩ = [] := by unfold nextOf; dsimp only; first | (rw [if_neg (fun h => hp h.2.2), if_neg (by simp [k12, k13])]; rfl) | (simp; done) | (simp; omega) | (simp_all; done) | (simp_all; omega)
      rw [el]
      exact ⟨_, _, rfl, reads_nil _ _, below_drew (below_trans B2.out bw) _, fun a e => by cases e⟩
end Go.Proofs.YtpfgklkdldkajaaDoor
