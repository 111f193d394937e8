/- The document's 'Reached' answers which pcs are come to, in a row of its own. Conditions: the code may be and lies in memory as it is said. -/
import Derived.Test.YtpfgklkdldkajaaDoorRefNext
import Derived.Test.YtpfgklkdldkajaaDoorReached
import Derived.Test.YtpfgklkdldkajaaDoorGen
namespace Go.Proofs.YtpfgklkdldkajaaDoor
open Go.RowKit

theorem intsV_cons (x : Int) (xs : List Int) : intsV (x :: xs) = .int .i64 x :: intsV xs := rfl
theorem natsI_cons (x : Nat) (xs : List Nat) : natsI (x :: xs) = (x : Int) :: natsI xs := rfl
theorem natsI_app (xs ys : List Nat) : natsI (xs ++ ys) = natsI xs ++ natsI ys := by simp [natsI]
set_option maxRecDepth 100000 in
set_option maxHeartbeats 4000000 in
theorem rreached_any (f : Fn) (A : Option Addr) (c : Nat) (w : World) (hr : ReadsC w A f.code) (hm : codeMay f.code = true) :
    Calls Tryd.prog 43 #[fnV f A c] w (Marks (reachB f.code) 0 w) := by
  have b1 : Below w.heap.size w (w.alloc (.cells #[.int .i64 f.args, .int .i64 f.locals, .slice A f.code.length c] 31)) := below_alloc (Below.refl _ _) _
  have hF := fnAt_new f A c w hr
  have HM := Lib.hid (rfuncMay_any f A c _ (hr.below b1))
  rw [hm] at HM
  have hn : f.code.length ≤ 9223372036854775807 := hr.1
  have HF := Lib.hid hF
  have h0 : 0 < f.code.length := Reach.lt hm .zero
  have h64 : f.code.length ≤ 64 := by unfold codeMay at hm; simp only [Bool.and_eq_true, decide_eq_true_eq] at hm; omega
  have HC := Lib.hid hm
  clear hr hF hm
  unfold fnV at HM ⊢
  go_enter Tryd.func43, Tryd.ntmps43
  go_wp2_with fail
  refine HM.out.mono ?_
  rintro e w2 ⟨rfl, hB⟩
  have hF2 := HF.out.below hB
  have c2 := hF2.c2
  have HF2 := Lib.hid hF2
  have B2 := Lib.hid (below_trans b1 hB)
  have hsz := B2.out.size
  clear hF2 hB b1 HF HM
  have hmk := make_bools f.code.length (by omega) w2
  have r1 : RowAt 4 w2.heap.size (boolsV (List.replicate f.code.length false)) (w2.alloc (.cells (boolsV (List.replicate f.code.length false)).toArray 4)) := RowAt.new _ _ _
  have q1 : ORow ((w2.alloc (.cells (boolsV (List.replicate f.code.length false)).toArray 4)).alloc (.cells #[.int .i64 0] 3)) w2.heap.size 3 1 (.slice (some ⟨w2.heap.size + 1, 0, none⟩) 1 1) 1 (intsV (natsI [0])) := by
    have := RowAt.new 3 (intsV (natsI [0])) (w2.alloc (.cells (boolsV (List.replicate f.code.length false)).toArray 4))
    have hs2 : (w2.alloc (.cells (boolsV (List.replicate f.code.length false)).toArray 4)).heap.size = w2.heap.size + 1 := by simp
    rw [hs2] at this
    exact ORow.of_row this (by omega) (by simp [intsV, natsI]) (by decide)
  have bb : Below w2.heap.size w2 ((w2.alloc (.cells (boolsV (List.replicate f.code.length false)).toArray 4)).alloc (.cells #[.int .i64 0] 3)) :=
    below_alloc (below_alloc (Below.refl _ _) _) _
  have r2 := r1.below (below_alloc (Below.refl _ _) (.cells #[.int .i64 0] 3))
  have HR1 := Lib.hid r1
  clear r1
  go_wp2_with fail
  clear hmk HR1
  go_loopg [5] (3 * f.code.length + 1) (fun m v wr => ∃ (out : List Bool) (row : List Nat), RInv f.code out row ∧ 3 * unset out + row.length ≤ m ∧ m ≤ 3 * f.code.length + 1 ∧ ORow wr w2.heap.size 3 1 v row.length (intsV (natsI row)) ∧ Apart v w2.heap.size ∧ RowAt 4 w2.heap.size (boolsV out) wr ∧ Below w2.heap.size w2 wr)
  case atStart => exact ⟨_, [0], RInv.start _, by simp [unset, List.countP_replicate], Nat.le_refl _, q1, by simp [Apart, Value.ownBlock], r2, bb⟩
  case round =>
    obtain ⟨out, row, hi, hmu, hgk, hq, ha, hr, hb⟩ := hrel
    clear q1 r2 bb
    have HI := Lib.hid hi
    have HR := Lib.hid hr
    have HB := Lib.hid hb
    have HA := Lib.hid ha
    clear hi hr hb ha
    rcases row with _ | ⟨pc, row⟩
    · obtain ⟨ao, cap, rfl, _⟩ := hq.shape
      clear hq
      go_wp2_with fail
      go_ret2
      rw [← HI.out.done]
      exact ⟨w2.heap.size, by rw [HI.out.len]; rfl, HR.out, hsz, below_trans B2.out HB.out⟩
    · obtain ⟨ao, cap, rfl, _⟩ := hq.shape
      rw [natsI_cons, List.length_cons] at hq
      have hcel := hq.cell (k := 0) (by simp [intsV])
      obtain ⟨g, off, rfl, _, _, hcs⟩ := hcel
      have e0 := (hcs 0 (by simp [intsV])).1
      simp only [intsV_cons, List.getElem_cons_zero, Nat.add_zero] at e0
      obtain ⟨v', hrun, hq', hob, -⟩ := hq.tail_int
      have hpc : pc < f.code.length := Reach.lt HC.out (HI.out.inwork pc (by simp))
      have hpo : pc < out.length := by rw [HI.out.len]; exact hpc
      have c3 := bools_cell HR.out hpo
      have hol := HI.out.len
      have HQ := Lib.hid hq'
      have HOB := Lib.hid hob
      have HO := Lib.hid hol
      clear hq hcs hq' hob hol
      rw [natsI_len] at HQ
      cases hbt : out[pc] with
      | true =>
        rw [hbt] at c3
        go_wp2_with fail
        go_roundg (3 * unset out + row.length)
        case measure => simp at hmu; omega
        case rel => exact ⟨out, row, HI.out.skip (by unfold Has; rw [List.getElem?_eq_getElem hpo, hbt]), Nat.le_refl _, by simp at hmu; omega, HQ.out, by unfold Apart; rw [HOB.out]; exact HA.out, HR.out, HB.out⟩
      | false =>
        rw [hbt] at c3
        have f3 := HR.out.free pc
        have kk : Keeps w2.heap.size wr (wr.setCell ⟨w2.heap.size, pc, none⟩ (.bool true)) := Keeps.put (Keeps.refl _ _) _ _
        have hF3 := HF2.out.below (below_keep HB.out kk (Nat.le_refl _))
        have c4 := hF3.c0
        have c5 := hF3.c1
        have c6 := hF3.c2
        have HN := Lib.hid (rnext_any f A c pc _ hF3.r HC.out hpc)
        rw [nx_eq HC.out hpc] at HN
        have hap : Apart v' w2.heap.size := by unfold Apart; rw [HOB.out]; exact HA.out
        have HAP := Lib.hid hap
        have HK := Lib.hid kk
        clear hF3 hap kk
        unfold fnV at HN
        go_wp2_with fail
        refine HN.out.mono ?_
        rintro e w3 ⟨B, d, rfl, hl, hB3, hlo⟩
        have HQ3 := Lib.hid ((HQ.out.chg (S := fun k => w2.heap.size = k) (Chg.of_grown HK.out (fun k e => Option.some.inj e)) (fun k hk e => HAP.out (by rw [e]; exact hk))).below hB3)
        have HR3 := Lib.hid ((bools_put HR.out pc true).below hB3)
        have HB3 := Lib.hid (below_trans (below_keep HB.out HK.out (Nat.le_refl _)) hB3)
        have HL := Lib.hid hl
        clear hl hB3 hlo
        have hn2 := nx_len f.code pc
        have hus := unset_set hpo hbt
        have HUS := Lib.hid hus
        clear hus
        have hlen : (List.map (fun n : Nat => (n : Int)) (nx f.code pc)).length = (nx f.code pc).length := by simp
        have HLEN := Lib.hid hlen
        clear hlen
        go_wp2_with (first | (at_builtin; refine wpList_app_int _ rfl _ _ rfl w2.heap.size _ _ _ rfl HQ3.out ?c1 _ _ _ _ rfl (by first | rfl | exact HLEN.out) HL.out ?c2 ?_; rotate_left 2; intro v4 w4 hG) | fail)
        case c1 => exact HB3.out.size
        case c2 => have := HLEN.out; simp at hmu; omega
        have hrow := hG.row
        have hch : Keeps w2.heap.size w2 w2 := Keeps.refl _ _
        have hwl : w2.heap.size < w3.heap.size := blk_lt HR3.out
        have hap4 := hG.apart hwl HAP.out
        have hR4 := HR3.out.grown hG.kept HAP.out
        have hB4 := HB3.out.grown hG.kept HB3.out.size (fun k hk => HQ3.out.lo k hk)
        clear hG hch
        go_roundg (3 * unset (out.set pc true) + (row ++ nx f.code pc).length)
        case measure => have := HUS.out; simp at hmu ⊢; omega
        case rel => exact ⟨out.set pc true, row ++ nx f.code pc, HI.out.mark hpo, Nat.le_refl _, by have := HUS.out; simp at hmu ⊢; omega, by
          rw [natsI_app, List.length_append]; exact hrow, hap4, hR4, hB4⟩
end Go.Proofs.YtpfgklkdldkajaaDoor
