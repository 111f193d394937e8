/- 'flow.Reached' answers which pcs are come to, in a row of its own. Conditions: the code may be and lies in memory as it is said. The document's 'Reached' answers which pcs are come to, in a row of its own. Conditions: the code may be and lies in memory as it is said. 'verify.heights' reckons the heights, in a row of its own. Conditions: the program may be packed, the function is plain; they lie in memory as they are said. -/
import Derived.Test.YtjghibdlmmjobaaGreatDoorGZ05
import Derived.Test.YtjghibdlmmjobaaGreatDoorGZ03
import Derived.Deep.Cut
import Derived.Test.YtjghibdlmmjobaaGreatDoorGZ06
import Derived.Deep.RegionHeld3
namespace Go.Proofs.YtjghibdlmmjobaaGreatDoor
open Go.RowKit

/-- A call that answers marks, in a row of its own, and a number; nothing old turns. -/
def Marks (out : List Bool) (n : Int) (w : World) (e : Ending) (w' : World) : Prop := ∃ g, e = .returned (.tuple #[.slice (some ⟨g, 0, none⟩) out.length out.length, .int .i64 n]) ∧ RowAt 4 g (boolsV out) w' ∧ w.heap.size ≤ g ∧ Below w.heap.size w w'
def natsI (xs : List Nat) : List Int := xs.map (fun n : Nat => (n : Int))
theorem natsI_len (xs : List Nat) : (natsI xs).length = xs.length := by simp [natsI]
theorem natsI_get (xs : List Nat) (k : Nat) (h : k < xs.length) : (natsI xs)[k]'(by rw [natsI_len]; exact h) = (xs[k] : Int) := by simp [natsI]
theorem reachB_len (code : List Ins) : (reachB code).length = code.length := by simp [reachB]

set_option maxRecDepth 100000 in
set_option maxHeartbeats 4000000 in
theorem reached_any (f : Fn) (A : Option Addr) (c : Nat) (w : World) (hr : ReadsC w A f.code) (hm : codeMay f.code = true) :
    Calls Tryz.prog 198 #[fnV f A c] w (Marks (reachB f.code) 0 w) := by
  have b1 : Below w.heap.size w (w.alloc (.cells #[.int .i64 f.args, .int .i64 f.locals, .slice A f.code.length c] 84)) := below_alloc (Below.refl _ _) _
  have hF := fnAt_new f A c w hr
  have HM := Lib.hid (flowMay_any _ f A c _ hF)
  rw [hm] at HM
  have hn : f.code.length ≤ 9223372036854775807 := hr.1
  have HF := Lib.hid hF
  have h0 : 0 < f.code.length := Reach.lt hm .zero
  have h64 : f.code.length ≤ 64 := by unfold codeMay at hm; simp only [Bool.and_eq_true, decide_eq_true_eq] at hm; omega
  have HC := Lib.hid hm
  clear hr hF hm
  unfold fnV
  go_enter Tryz.func198, Tryz.ntmps198
  go_wp2_with fail
  refine HM.out.mono ?_
  rintro e w2 ⟨rfl, hB⟩
  have hF2 := HF.out.below hB
  have c2 := hF2.c2
  have HF2 := Lib.hid hF2
  have B2 := Lib.hid (below_trans b1 hB)
  have hsz := B2.out.size
  clear hF2 hB b1 HF HM
  have hmk := make_bools f.code.length (by omega) w2
  have r0 : RowAt 4 w2.heap.size (boolsV (List.replicate f.code.length false)) (w2.alloc (.cells (boolsV (List.replicate f.code.length false)).toArray 4)) := RowAt.new _ _ _
  have f0 := r0.free 0
  have c0 := bools_cell r0 (k := 0) (by simpa using h0)
  have r1 : RowAt 4 w2.heap.size (boolsV ((List.replicate f.code.length false).set 0 true)) (w2.alloc (.cells ((boolsV (List.replicate f.code.length false)).set 0 (.bool true)).toArray 4)) := by
    have := RowAt.new 4 ((boolsV (List.replicate f.code.length false)).set 0 (.bool true)) w2
    rwa [show (boolsV (List.replicate f.code.length false)).set 0 (.bool true) = boolsV ((List.replicate f.code.length false).set 0 true) by simp only [boolsV, List.map_set]] at this ⊢
  have q1 : QRow ((w2.alloc (.cells ((boolsV (List.replicate f.code.length false)).set 0 (.bool true)).toArray 4)).alloc (.cells #[.int .i64 0] 3)) w2.heap.size (.slice (some ⟨w2.heap.size + 1, 0, none⟩) 1 1) (natsI [0]) := by
    have := RowAt.new 3 (intsV [0]) (w2.alloc (.cells ((boolsV (List.replicate f.code.length false)).set 0 (.bool true)).toArray 4))
    have hs2 : (w2.alloc (.cells ((boolsV (List.replicate f.code.length false)).set 0 (.bool true)).toArray 4)).heap.size = w2.heap.size + 1 := by simp
    rw [hs2] at this
    exact QRow.of_row (xs := [0]) this (by omega) (by simp)
  have bb : Below w2.heap.size w2 ((w2.alloc (.cells ((boolsV (List.replicate f.code.length false)).set 0 (.bool true)).toArray 4)).alloc (.cells #[.int .i64 0] 3)) :=
    below_alloc (below_alloc (Below.refl _ _) _) _
  have r2 := r1.below (below_alloc (Below.refl _ _) (.cells #[.int .i64 0] 3))
  go_wp2_with fail
  clear r0 f0 c0 r1 hmk
  go_loopg [5] (2 * f.code.length + 1) (fun m v wr => ∃ (out : List Bool) (row : List Nat), FInv f.code out row ∧ 2 * unset out + row.length ≤ m ∧ m ≤ 2 * f.code.length + 1 ∧ QRow wr w2.heap.size v (natsI row) ∧ Apart v w2.heap.size ∧ RowAt 4 w2.heap.size (boolsV out) wr ∧ Below w2.heap.size w2 wr)
  case atStart => exact ⟨_, [0], FInv.start HC.out, by
    have : unset ((List.replicate f.code.length false).set 0 true) ≤ f.code.length := Nat.le_trans List.countP_le_length (by simp)
    simp; omega, Nat.le_refl _, q1, by simp [Apart, Value.ownBlock], r2, bb⟩
  case round =>
    obtain ⟨out, row, hi, hmu, hgk, hq, ha, hr, hb⟩ := hrel
    clear q1 r2 bb
    have HI := Lib.hid hi
    have HR := Lib.hid hr
    have HB := Lib.hid hb
    have HA := Lib.hid ha
    clear hi hr hb ha
    rcases row with _ | ⟨pc, row⟩
    · obtain ⟨ao, cap, rfl, _⟩ := hq
      go_wp2_with fail
      go_ret2
      rw [← HI.out.done]
      exact ⟨w2.heap.size, by rw [HI.out.len]; rfl, HR.out, hsz, below_trans B2.out HB.out⟩
    · obtain ⟨ao, cap, rfl, _⟩ := hq.reads
      obtain ⟨g, off, rfl, e1, e2, e3, e4, e5⟩ := hq.tail
      have hpc : pc < f.code.length := by have := (HI.out.inrow pc (by simp)).lt; rw [HI.out.len] at this; exact this
      have HN := Lib.hid (next_any _ f A c pc wr (HF2.out.below HB.out) hpc)
      rw [nx_eq HC.out hpc] at HN
      have HQ := Lib.hid (show QRow wr w2.heap.size (.slice (some ⟨g, off, none⟩) (row.length + 1) cap) (natsI (pc :: row)) from by simpa only [natsI_len, List.length_cons] using hq)
      have E45 := Lib.hid (And.intro e4 e5)
      clear hq e4 e5
      go_wp2_with fail
      refine HN.out.mono ?_
      rintro e w3 ⟨B, d, rfl, hl, hB3, hlo⟩
      rw [List.length_map]
      have hgl : g < wr.heap.size := World.block_lt_of_cell? wr _ e3
      have hbl : w2.heap.size < wr.heap.size := blk_lt HR.out
      have hap : ∀ a, B = some a → Apart (.slice (some ⟨g, off, none⟩) (row.length + 1) cap) a.block := fun a e => by
        have := hlo a e
        simp [Apart, Value.ownBlock]; omega
      have hbn : ∀ a, B = some a → a.block ≠ w2.heap.size := fun a e => by have := hlo a e; omega
      have HL := Lib.hid hl
      have HQ3 := Lib.hid (HQ.out.below hB3)
      have HR3 := Lib.hid (HR.out.below hB3)
      have HB4 := Lib.hid (below_trans HB.out hB3)
      have HAP := Lib.hid hap
      have HBN := Lib.hid hbn
      clear hl hB3 HQ hap hbn hlo HR HB e3
      have hn2 := nx_len f.code pc
      go_wp2_with fail
      go_loopw [5, 27] (fun v i w4 => ∃ (j : Nat) (out' : List Bool) (row' : List Nat), i = .int .i64 j ∧ j ≤ (nx f.code pc).length ∧ FInv f.code out' (pc :: row') ∧ 2 * unset out' + (row'.length + 1) ≤ gk ∧ (∀ x (hx : x < (nx f.code pc).length), x < j → Has out' (nx f.code pc)[x]) ∧ QRow w4 w2.heap.size v (natsI (pc :: row')) ∧ Apart v w2.heap.size ∧ RowAt 4 w2.heap.size (boolsV out') w4 ∧ Below w2.heap.size w2 w4 ∧ ReadsI w4 B (natsI (nx f.code pc)) ∧ (∀ a, B = some a → Apart v a.block)) (fun _ i _ => (nx f.code pc).length - (intOf i).toNat)
      case atStart => exact ⟨0, out, row, rfl, by omega, HI.out, hmu, fun _ _ h => absurd h (by omega), HQ3.out, HA.out, HR3.out, HB4.out, HL.out, HAP.out⟩
      case round =>
        obtain ⟨j, out', row', rfl, hj, hi', hmu', hdone, hq', ha', hr', hb', hl', hap'⟩ := hrel
        have HI' := Lib.hid hi'
        have HD := Lib.hid hdone
        have HQ' := Lib.hid hq'
        have HA' := Lib.hid ha'
        have HR' := Lib.hid hr'
        have HB' := Lib.hid hb'
        have HL' := Lib.hid hl'
        have HAP' := Lib.hid hap'
        clear hi' hdone hq' ha' hr' hb' hl' hap' HQ3 HR3 HB4 HL HAP
        by_cases hlt : j < (nx f.code pc).length
        · obtain ⟨t, et⟩ : ∃ t, (nx f.code pc)[j] = t := ⟨_, rfl⟩
          have htm : t ∈ nx f.code pc := et ▸ List.getElem_mem hlt
          have htl : t < out'.length := by rw [HI'.out.len]; exact nx_lt HC.out htm
          obtain ⟨adB, eB, cB⟩ := HL'.out.at_ (k := j) (by rw [natsI_len]; exact hlt)
          rw [natsI_get _ _ hlt, et] at cB
          subst eB
          have hlt0 : 0 < (natsI (nx f.code pc)).length := by rw [natsI_len]; omega
          have hbl' := blk_lt HR'.out
          have htL : t < f.code.length := nx_lt HC.out htm
          have c5 := bools_cell HR'.out htl
          have f5 := HR'.out.free t
          cases hbt : out'[t] with
          | true =>
            rw [hbt] at c5
            go_wp2_with fail
            go_roundw
            case rel => exact ⟨j + 1, out', row', rfl, by omega, HI'.out, hmu', fun x hx hxj => by
              rcases Nat.lt_or_ge x j with h2 | h2
              · exact HD.out x hx h2
              · obtain rfl : x = j := by omega
                rw [et]; unfold Has; rw [List.getElem?_eq_getElem htl, hbt], HQ'.out, HA'.out, HR'.out, HB'.out, HL'.out, HAP'.out⟩
            case measure => simp only [intOf]; omega
          | false =>
            rw [hbt] at c5
            have kk : Keeps w2.heap.size wr (wr.setCell ⟨w2.heap.size, t, none⟩ (.bool true)) := Keeps.put (Keeps.refl _ _) _ _
            have bk := below_alloc (Below.refl (wr.setCell ⟨w2.heap.size, t, none⟩ (.bool true)).heap.size _) (.cells #[.int .i64 t] 3)
            have R5 := Lib.hid ((bools_put HR'.out t true).below bk)
            have Q5 := Lib.hid ((HQ'.out.keeps kk HA'.out).below bk)
            go_upto_region 13 with fail
            go_wp2_with (first | (at_builtin; refine wpList_append_q _ rfl _ _ rfl w2.heap.size _ _ rfl Q5.out ?c1 _ 1 1 [(t : Int)] rfl rfl (by decide) ?c2 ?c3 ?_; rotate_left 3; intro v' w5 hG) | fail)
            go_roundw
            case rel => exact ⟨j + 1, out'.set t true, row' ++ [t], rfl, by omega, by rw [← List.cons_append]; exact HI'.out.mark (HI'.out.inrow pc (by simp)) htm htl, by
                have := unset_set htl hbt
                simp; omega, fun x hx hxj => by
                rcases Nat.lt_or_ge x j with h2 | h2
                · exact has_set (HD.out x hx h2)
                · obtain rfl : x = j := by omega
                  rw [et]; exact has_set_self htl, by
                have := hG.row
                rwa [show natsI (pc :: row') ++ [(t : Int)] = natsI (pc :: (row' ++ [t])) by simp [natsI]] at this,
              hG.apart (Nat.lt_of_lt_of_le hbl' (by simp)) HA'.out, R5.out.grown hG.kept HA'.out,
              (below_alloc (below_keep HB'.out kk (Nat.le_refl _)) _).grown hG.kept (by have := HB'.out.size; simp; omega) Q5.out.lo,
              ((HL'.out.keeps kk HBN.out).below bk).grown hG.kept HAP'.out, fun a e => hG.apart (by
                have h1 := HL'.out.lt_block hlt0 a e
                simp; omega) (HAP'.out a e)⟩
            case measure => simp only [intOf]; omega
            case c1 => have := HB'.out.size; simp; omega
            case c2 =>
              intro i hi
              obtain rfl : i = 0 := by simpa using hi
              have := blk_new (wr.setCell ⟨w2.heap.size, t, none⟩ (.bool true)) (.cells #[.int .i64 t] 3)
              rw [show (wr.setCell ⟨w2.heap.size, t, none⟩ (.bool true)).heap.size = wr.heap.size by simp] at this
              rw [add_plain]; exact (blk_cell this 0).trans rfl
            case c3 => rw [natsI_len]; simp; omega
        · obtain rfl : j = (nx f.code pc).length := by omega
          have hpop := HI'.out.pop (fun t ht => by
            obtain ⟨x, hx, rfl⟩ := List.mem_iff_getElem.1 ht
            exact HD.out x hx hx)
          have HP := Lib.hid hpop
          have HQa := HQ'.out
          have HAa := HA'.out
          obtain ⟨ao2, cap2, rfl, _⟩ := HQa.reads
          obtain ⟨g2, off2, rfl, e1', e2', _, e4, e5⟩ := HQa.tail
          have HAb := Lib.hid HAa
          clear hpop HQa HAa HQ' HA' HAP'
          by_cases hc1 : cap2 = 1
          · subst hc1
            have HQ6 := Lib.hid (e4 rfl)
            clear e4 e5
            go_wp2_with fail
            go_roundg (2 * unset out' + row'.length)
            case measure => omega
            case rel => exact ⟨out', row', HP.out, Nat.le_refl _, by omega, by have := HQ6.out; rwa [List.length_map] at this, by simpa [Apart, Value.ownBlock] using HAb.out, HR'.out, HB'.out⟩
          · have HQ6 := Lib.hid (e5 (by omega))
            clear e4 e5
            go_wp2_with fail
            go_roundg (2 * unset out' + row'.length)
            case measure => omega
            case rel => exact ⟨out', row', HP.out, Nat.le_refl _, by omega, by have := HQ6.out; rwa [List.length_map] at this, by simpa [Apart, Value.ownBlock] using HAb.out, HR'.out, HB'.out⟩
end Go.Proofs.YtjghibdlmmjobaaGreatDoor

namespace Go.Proofs.YtjghibdlmmjobaaGreatDoor
open Go.RowKit

theorem intsV_cons (x : Int) (xs : List Int) : intsV (x :: xs) = .int .i64 x :: intsV xs := rfl
theorem natsI_cons (x : Nat) (xs : List Nat) : natsI (x :: xs) = (x : Int) :: natsI xs := rfl
theorem natsI_app (xs ys : List Nat) : natsI (xs ++ ys) = natsI xs ++ natsI ys := by simp [natsI]
set_option maxRecDepth 100000 in
set_option maxHeartbeats 4000000 in
theorem rreached_any (f : Fn) (A : Option Addr) (c : Nat) (w : World) (hr : ReadsC w A f.code) (hm : codeMay f.code = true) :
    Calls Tryz.prog 167 #[fnV f A c] w (Marks (reachB f.code) 0 w) := by
  have b1 : Below w.heap.size w (w.alloc (.cells #[.int .i64 f.args, .int .i64 f.locals, .slice A f.code.length c] 84)) := below_alloc (Below.refl _ _) _
  have hF := fnAt_new f A c w hr
  have HM := Lib.hid (rfuncMay_any f A c _ (hr.below b1))
  rw [hm] at HM
  have hn : f.code.length ≤ 9223372036854775807 := hr.1
  have HF := Lib.hid hF
  have h0 : 0 < f.code.length := Reach.lt hm .zero
  have h64 : f.code.length ≤ 64 := by unfold codeMay at hm; simp only [Bool.and_eq_true, decide_eq_true_eq] at hm; omega
  have HC := Lib.hid hm
  clear hr hF hm
  unfold fnV at HM ⊢
  go_enter Tryz.func167, Tryz.ntmps167
  go_wp2_with fail
  refine HM.out.mono ?_
  rintro e w2 ⟨rfl, hB⟩
  have hF2 := HF.out.below hB
  have c2 := hF2.c2
  have HF2 := Lib.hid hF2
  have B2 := Lib.hid (below_trans b1 hB)
  have hsz := B2.out.size
  clear hF2 hB b1 HF HM
  have hmk := make_bools f.code.length (by omega) w2
  have r1 : RowAt 4 w2.heap.size (boolsV (List.replicate f.code.length false)) (w2.alloc (.cells (boolsV (List.replicate f.code.length false)).toArray 4)) := RowAt.new _ _ _
  have q1 : ORow ((w2.alloc (.cells (boolsV (List.replicate f.code.length false)).toArray 4)).alloc (.cells #[.int .i64 0] 3)) w2.heap.size 3 1 (.slice (some ⟨w2.heap.size + 1, 0, none⟩) 1 1) 1 (intsV (natsI [0])) := by
    have := RowAt.new 3 (intsV (natsI [0])) (w2.alloc (.cells (boolsV (List.replicate f.code.length false)).toArray 4))
    have hs2 : (w2.alloc (.cells (boolsV (List.replicate f.code.length false)).toArray 4)).heap.size = w2.heap.size + 1 := by simp
    rw [hs2] at this
    exact ORow.of_row this (by omega) (by simp [intsV, natsI]) (by decide)
  have bb : Below w2.heap.size w2 ((w2.alloc (.cells (boolsV (List.replicate f.code.length false)).toArray 4)).alloc (.cells #[.int .i64 0] 3)) :=
    below_alloc (below_alloc (Below.refl _ _) _) _
  have r2 := r1.below (below_alloc (Below.refl _ _) (.cells #[.int .i64 0] 3))
  have HR1 := Lib.hid r1
  clear r1
  go_wp2_with fail
  clear hmk HR1
  go_loopg [5] (3 * f.code.length + 1) (fun m v wr => ∃ (out : List Bool) (row : List Nat), RInv f.code out row ∧ 3 * unset out + row.length ≤ m ∧ m ≤ 3 * f.code.length + 1 ∧ ORow wr w2.heap.size 3 1 v row.length (intsV (natsI row)) ∧ Apart v w2.heap.size ∧ RowAt 4 w2.heap.size (boolsV out) wr ∧ Below w2.heap.size w2 wr)
  case atStart => exact ⟨_, [0], RInv.start _, by simp [unset, List.countP_replicate], Nat.le_refl _, q1, by simp [Apart, Value.ownBlock], r2, bb⟩
  case round =>
    obtain ⟨out, row, hi, hmu, hgk, hq, ha, hr, hb⟩ := hrel
    clear q1 r2 bb
    have HI := Lib.hid hi
    have HR := Lib.hid hr
    have HB := Lib.hid hb
    have HA := Lib.hid ha
    clear hi hr hb ha
    rcases row with _ | ⟨pc, row⟩
    · obtain ⟨ao, cap, rfl, _⟩ := hq.shape
      clear hq
      go_wp2_with fail
      go_ret2
      rw [← HI.out.done]
      exact ⟨w2.heap.size, by rw [HI.out.len]; rfl, HR.out, hsz, below_trans B2.out HB.out⟩
    · obtain ⟨ao, cap, rfl, _⟩ := hq.shape
      rw [natsI_cons, List.length_cons] at hq
      have hcel := hq.cell (k := 0) (by simp [intsV])
      obtain ⟨g, off, rfl, _, _, hcs⟩ := hcel
      have e0 := (hcs 0 (by simp [intsV])).1
      simp only [intsV_cons, List.getElem_cons_zero, Nat.add_zero] at e0
      obtain ⟨v', hrun, hq', hob, -⟩ := hq.tail_int
      have hpc : pc < f.code.length := Reach.lt HC.out (HI.out.inwork pc (by simp))
      have hpo : pc < out.length := by rw [HI.out.len]; exact hpc
      have c3 := bools_cell HR.out hpo
      have hol := HI.out.len
      have HQ := Lib.hid hq'
      have HOB := Lib.hid hob
      have HO := Lib.hid hol
      clear hq hcs hq' hob hol
      rw [natsI_len] at HQ
      cases hbt : out[pc] with
      | true =>
        rw [hbt] at c3
        go_wp2_with fail
        go_roundg (3 * unset out + row.length)
        case measure => simp at hmu; omega
        case rel => exact ⟨out, row, HI.out.skip (by unfold Has; rw [List.getElem?_eq_getElem hpo, hbt]), Nat.le_refl _, by simp at hmu; omega, HQ.out, by unfold Apart; rw [HOB.out]; exact HA.out, HR.out, HB.out⟩
      | false =>
        rw [hbt] at c3
        have f3 := HR.out.free pc
        have kk : Keeps w2.heap.size wr (wr.setCell ⟨w2.heap.size, pc, none⟩ (.bool true)) := Keeps.put (Keeps.refl _ _) _ _
        have hF3 := HF2.out.below (below_keep HB.out kk (Nat.le_refl _))
        have c4 := hF3.c0
        have c5 := hF3.c1
        have c6 := hF3.c2
        have HN := Lib.hid (rnext_any f A c pc _ hF3.r HC.out hpc)
        rw [nx_eq HC.out hpc] at HN
        have hap : Apart v' w2.heap.size := by unfold Apart; rw [HOB.out]; exact HA.out
        have HAP := Lib.hid hap
        have HK := Lib.hid kk
        clear hF3 hap kk
        unfold fnV at HN
        go_wp2_with fail
        refine HN.out.mono ?_
        rintro e w3 ⟨B, d, rfl, hl, hB3, hlo⟩
        have HQ3 := Lib.hid ((HQ.out.chg (S := fun k => w2.heap.size = k) (Chg.of_grown HK.out (fun k e => Option.some.inj e)) (fun k hk e => HAP.out (by rw [e]; exact hk))).below hB3)
        have HR3 := Lib.hid ((bools_put HR.out pc true).below hB3)
        have HB3 := Lib.hid (below_trans (below_keep HB.out HK.out (Nat.le_refl _)) hB3)
        have HL := Lib.hid hl
        clear hl hB3 hlo
        have hn2 := nx_len f.code pc
        have hus := unset_set hpo hbt
        have HUS := Lib.hid hus
        clear hus
        have hlen : (List.map (fun n : Nat => (n : Int)) (nx f.code pc)).length = (nx f.code pc).length := by simp
        have HLEN := Lib.hid hlen
        clear hlen
        go_wp2_with (first | (at_builtin; refine wpList_app_int _ rfl _ _ rfl w2.heap.size _ _ _ rfl HQ3.out ?c1 _ _ _ _ rfl (by first | rfl | exact HLEN.out) HL.out ?c2 ?_; rotate_left 2; intro v4 w4 hG) | fail)
        case c1 => exact HB3.out.size
        case c2 => have := HLEN.out; simp at hmu; omega
        have hrow := hG.row
        have hch : Keeps w2.heap.size w2 w2 := Keeps.refl _ _
        have hwl : w2.heap.size < w3.heap.size := blk_lt HR3.out
        have hap4 := hG.apart hwl HAP.out
        have hR4 := HR3.out.grown hG.kept HAP.out
        have hB4 := HB3.out.grown hG.kept HB3.out.size (fun k hk => HQ3.out.lo k hk)
        clear hG hch
        go_roundg (3 * unset (out.set pc true) + (row ++ nx f.code pc).length)
        case measure => have := HUS.out; simp at hmu ⊢; omega
        case rel => exact ⟨out.set pc true, row ++ nx f.code pc, HI.out.mark hpo, Nat.le_refl _, by have := HUS.out; simp at hmu ⊢; omega, by
          rw [natsI_app, List.length_append]; exact hrow, hap4, hR4, hB4⟩
end Go.Proofs.YtjghibdlmmjobaaGreatDoor

namespace Go.Proofs.YtjghibdlmmjobaaGreatDoor
open Go.RowKit

/-- A call that answers heights, or an error. -/
def HeightsR (r : Nat ⊕ List Int) (w : World) (e : Ending) (w' : World) : Prop := match r with
  | .inl pc => ∃ v, e = .returned (.tuple #[.slice none 0 0, v]) ∧ ErrO w' v (some ((pc : Int), 502)) ∧ Below w.heap.size w w'
  | .inr out => ∃ g, e = .returned (.tuple #[.slice (some ⟨g, 0, none⟩) out.length out.length, .nilIface]) ∧ RowAt 3 g (intsV out) w' ∧ w.heap.size ≤ g ∧ Below w.heap.size w w'
theorem ranged_call {p : List Fn} {f : Fn} {x : Ins} (hm : insMay x = true) (hr : rangedB p f x = true) : x.kind = 14 → 0 ≤ x.a ∧ x.a < p.length := fun hk => by
  have h := (may_of hm).2.2 (by omega)
  unfold rangedB at hr
  rw [if_neg (by omega), if_neg (by omega), if_pos hk] at hr
  exact ⟨h.1, by simpa using hr⟩
theorem effect_may {x : Ins} {n : Int} (hm : insMay x = true) (h0 : 0 ≤ n) (h4 : n ≤ 4) (w : World) : Calls Tryz.prog 217 #[.agg #[.int .i64 x.kind, .int .i64 x.a], .int .i64 n] w (Ret (.tuple #[.int .i64 (takesOf x.kind n), .int .i64 (putsOf x.kind), .int .i64 0]) w) := by
  have h := effect_any x n w
  rw [effOf_may hm h0 h4] at h
  exact h
theorem reffect_may {x : Ins} {n : Int} (hm : insMay x = true) (h0 : 0 ≤ n) (h4 : n ≤ 4) (w : World) : Calls Tryz.prog 204 #[.agg #[.int .i64 x.kind, .int .i64 x.a], .int .i64 n] w (Ret (.tuple #[.int .i64 (takesOf x.kind n), .int .i64 (putsOf x.kind), .int .i64 0]) w) := by
  have h := reffect_any x n w
  rw [effOf_may hm h0 h4] at h
  exact h
theorem hstep_len {h : Int} : ∀ {ts : List Nat} {out : List Int} {row : List Nat} {s : List Int × List Nat}, hstep h ts out row = some s → s.1.length = out.length
  | [], out, row, s, e => by cases e; rfl
  | t :: ts, out, row, s, e => by
    rw [hstep] at e
    split at e
    · have := hstep_len e; simpa using this
    · split at e
      · exact hstep_len e
      · cases e
set_option maxRecDepth 100000 in
set_option maxHeartbeats 8000000 in
theorem heights_any (P F : Addr) (p : List Fn) (Ap : Option Addr) (cp : Nat) (f : Fn) (A : Option Addr) (c : Nat) (w : World) (hP : w.cell? P = some (.slice Ap p.length cp)) (hr : ReadsF w Ap p) (hF : FnAt w F f A c)
    (hp : packs p = true) (hm : codeMay f.code = true) (hpl : plainOf p f = none) : Calls Tryz.prog 200 #[.pointer (some P), .pointer (some F)] w (HeightsR (hwalkOf p f.code) w) := by
  have HP := Lib.hid hP
  have HF := Lib.hid hF
  have HRF := Lib.hid hr
  have HPK := Lib.hid hp
  have HC := Lib.hid hm
  have HPL := Lib.hid hpl
  obtain ⟨h1, h64⟩ := codeMay_len hm
  have b1 : Below w.heap.size w (w.alloc (.cells #[.int .i64 (-1)] 3)) := below_alloc (Below.refl _ _) _
  have hrow : RowAt 3 w.heap.size (intsV [-1]) (w.alloc (.cells #[.int .i64 (-1)] 3)) := RowAt.new 3 (intsV [-1]) w
  have HREP := Lib.hid (repeat_any w.heap.size f.code.length _ hrow h1 (by omega))
  have c2 := (hF.below b1).c2
  have HB1 := Lib.hid b1
  obtain ⟨R, hR⟩ : ∃ R, hwalkOf p f.code = R := ⟨_, rfl⟩
  have HRes := Lib.hid hR
  clear hP hF hr hp hm hpl hrow b1 hR
  go_enter Tryz.func200, Tryz.ntmps200
  go_wp2_with fail
  refine HREP.out.mono ?_
  rintro e w2 ⟨g, rfl, hg, hlo, hB⟩
  have hgl := blk_lt hg
  have c0 := ints_cell hg (k := 0) (by simp; omega)
  have f0 := hg.free 0
  have B2 := Lib.hid (below_trans HB1.out hB)
  have hz : w.heap.size < g := by simp at hlo; omega
  have r1 := ints_put hg 0 0
  have q1 : ORow ((w2.setCell ⟨g, 0, none⟩ (.int .i64 0)).alloc (.cells #[.int .i64 0] 3)) w2.heap.size 3 1 (.slice (some ⟨w2.heap.size, 0, none⟩) 1 1) 1 (intsV (natsI [0])) := by
    have := RowAt.new 3 (intsV (natsI [0])) (w2.setCell ⟨g, 0, none⟩ (.int .i64 0))
    rw [show (w2.setCell ⟨g, 0, none⟩ (.int .i64 0)).heap.size = w2.heap.size by simp] at this
    exact ORow.of_row this (Nat.le_refl _) (by simp [intsV, natsI]) (by decide)
  have bb : Below w.heap.size w ((w2.setCell ⟨g, 0, none⟩ (.int .i64 0)).alloc (.cells #[.int .i64 0] 3)) := below_alloc (Below.setCell B2.out (p := ⟨g, 0, none⟩) (by simp; omega) _) _
  have r2 := r1.below (below_alloc (Below.refl _ _) (.cells #[.int .i64 0] 3))
  have R1 := Lib.hid r2
  have Q1 := Lib.hid q1
  have BB := Lib.hid bb
  clear r1 r2 q1 bb hg hlo hB HREP HB1
  go_wp2_with fail
  clear c0 f0
  go_loopg [7] (f.code.length + 1) (fun m v wr => ∃ (out : List Int) (row : List Nat), HInv f.code out row ∧ hwalk p f.code m out row = R ∧ unsetH out + row.length ≤ m ∧ m ≤ f.code.length + 1 ∧ ORow wr w2.heap.size 3 1 v row.length (intsV (natsI row)) ∧ RowAt 3 g (intsV out) wr ∧ Below w.heap.size w wr ∧ w2.heap.size ≤ wr.heap.size)
  case atStart => exact ⟨hstart f.code, [0], HInv.start HC.out, HRes.out, by
    have : unsetH (hstart f.code) + 1 = f.code.length := by
      unfold hstart
      unfold unsetH
      rw [List.countP_set (by simp; omega)]
      simp [List.countP_replicate]; omega
    simp; omega, Nat.le_refl _, Q1.out, R1.out, BB.out, by simp⟩
  case round =>
    obtain ⟨out, row, hi, hw, hmu, hgk, hq, hr, hb, hsz⟩ := hrel
    have HSZ := Lib.hid hsz
    clear R1 Q1 BB
    have HI := Lib.hid hi
    have HW := Lib.hid hw
    have HR := Lib.hid hr
    have HB := Lib.hid hb
    clear hi hw hr hb hsz
    rcases row with _ | ⟨pc, row⟩
    · obtain ⟨ao, cap, rfl, _⟩ := hq.shape
      clear hq
      go_wp2_with fail
      go_ret2
      have e := HW.out
      rw [hwalk_nil] at e
      rw [HRes.out, ← e]
      exact ⟨g, by rw [HI.out.len]; rfl, HR.out, by omega, HB.out⟩
    · obtain ⟨ao, cap, rfl, _⟩ := hq.shape
      have HQ := Lib.hid hq
      rw [natsI_cons, List.length_cons] at hq
      obtain ⟨gq, off, rfl, _, _, hcs⟩ := hq.cell (k := 0) (by simp [intsV])
      have e0 := (hcs 0 (by simp [intsV])).1
      simp only [intsV_cons, List.getElem_cons_zero, Nat.add_zero] at e0
      obtain ⟨hpo, hpn⟩ := HI.out.inrow pc (by simp)
      have hpc : pc < f.code.length := by rw [← HI.out.len]; exact hpo
      obtain ⟨hrc, ho0, ho8⟩ := HI.out.sound pc hpo hpn
      have hmx := may_mem HC.out hpc
      have hrg := ranged_of HC.out HPL.out hrc hpc
      have hx14 := ranged_call hmx hrg
      obtain ⟨a0, a4⟩ := argsOf_in HPK.out f.code[pc]
      obtain ⟨t0, t4⟩ := takes_in f.code[pc].kind _ a0 a4
      obtain ⟨u0, u2⟩ := puts_in f.code[pc].kind
      have HEF := Lib.hid (effect_may hmx a0 a4)
      obtain ⟨m', rfl⟩ : ∃ m', gk = m' + 1 := ⟨gk - 1, by simp at hmu; omega⟩
      have hbad := hwalk_bad (p := p) (n := m') (row := row) hpc hpo
      have hstp := hwalk_step (p := p) (n := m') (row := row) hpc hpo
      unfold behindH at hbad hstp
      obtain ⟨ad, eA, i0, i1⟩ := HF.out.r.at_ HB.out hpc
      have k2 := (HF.out.below HB.out).c2
      subst eA
      have s1 := ints_cell HR.out hpo
      have HX := Lib.hid hx14
      have HBAD := Lib.hid hbad
      have HSTP := Lib.hid hstp
      have HRC := Lib.hid hrc
      have HPd := Lib.hid (fun n => (below_drew HB.out n).cell (World.block_lt_of_cell? w _ HP.out) |>.trans HP.out)
      have HRd := Lib.hid (fun n => HRF.out.below (below_drew HB.out n))
      clear hq hcs hpn hmx hrg hx14 hbad hstp hrc
      obtain ⟨tk, htk⟩ : ∃ tk, takesOf f.code[pc].kind (argsOf p f.code[pc]) = tk := ⟨_, rfl⟩
      obtain ⟨pt, hpt⟩ : ∃ pt, putsOf f.code[pc].kind = pt := ⟨_, rfl⟩
      obtain ⟨o, ho⟩ : ∃ o, out[pc] = o := ⟨_, rfl⟩
      rw [htk, hpt] at HEF HBAD HSTP
      rw [ho] at HBAD HSTP ho0 ho8 s1
      rw [htk] at t0 t4
      rw [hpt] at u0 u2
      have ho' := Lib.hid ho
      clear htk hpt ho
      go_upto_region 7 with fail
      go_region_held3 (fun W' => W'.cell? ⟨F.block, F.off + 2, none⟩ = some (.slice (some ad) f.code.length c) ∧ W'.cell? (ad.add (pc * 2)) = some (.int .i64 f.code[pc].kind) ∧ W'.cell? ⟨(ad.add (pc * 2)).block, (ad.add (pc * 2)).off + 1, none⟩ = some (.int .i64 f.code[pc].a) ∧ Below wr.heap.size wr W')
        (first | exact ⟨k2, i0, i1, Below.refl _ _⟩ | exact ⟨k2, i0, i1, below_drew (Below.refl _ _) _⟩ | exact ⟨T1, T2, T3, TB⟩ | exact ⟨U1, U2, U3, UB⟩ | go_keep)
        (first | (go_at_call 218; refine (args_any P p Ap cp f.code[pc] _ (HPd.out _) (HRd.out _) HX.out).mono ?_; rintro e wa ⟨rfl, ba⟩; have TB := below_trans (below_drew (Below.refl wr.heap.size wr) 1) ba; have T1 := (TB.cell (World.block_lt_of_cell? _ _ k2)).trans k2; have T2 := (TB.cell (World.block_lt_of_cell? _ _ i0)).trans i0; have T3 := (TB.cell (World.block_lt_of_cell? _ _ i1)).trans i1) | (go_at_call 217; refine (HEF.out _).mono ?_; rintro e wb ⟨rfl, bb⟩; have UB := below_trans TB bb; have U1 := (UB.cell (World.block_lt_of_cell? _ _ k2)).trans k2; have U2 := (UB.cell (World.block_lt_of_cell? _ _ i0)).trans i0; have U3 := (UB.cell (World.block_lt_of_cell? _ _ i1)).trans i1))
      have HUB := Lib.hid UB
      have HBb := Lib.hid (below_trans HB.out UB)
      have s2 := ints_cell (HR.out.below UB) hpo
      rw [ho'.out] at s2
      have hF4 := Lib.hid (HF.out.below (below_trans HB.out UB))
      clear ba bb TB UB T1 T2 T3 U1 U2 U3 k2 i0 i1 e0 s1 HEF HPd HRd HX
      by_cases c1 : o < tk
      · have d1 : decide (o < tk) = true := by simpa using c1
        have HH := Lib.hid (show o < tk ∨ 8 < o - tk + pt from .inl c1)
        go_wp2_with fail
        go_ret2
        rw [HRes.out, ← HW.out, HBAD.out HH.out]
        exact ⟨_, rfl, fault_new _ _ _, below_alloc HBb.out _⟩
      have d1 : decide (o < tk) = false := by simpa using c1
      by_cases c2 : 8 < o - tk + pt
      · have d2 : decide (8 < o - tk + pt) = true := by simpa using c2
        have HH := Lib.hid (show o < tk ∨ 8 < o - tk + pt from .inr c2)
        go_wp2_with fail
        go_ret2
        rw [HRes.out, ← HW.out, HBAD.out HH.out]
        exact ⟨_, rfl, fault_new _ _ _, below_alloc HBb.out _⟩
      have d2 : decide (8 < o - tk + pt) = false := by simpa using c2
      have hst := HSTP.out (by omega) (by omega)
      have HN := Lib.hid (nextF_any f (some ad) c pc wb hF4.out.r HC.out hpc)
      rw [nx_eq HC.out hpc] at HN
      have k3 := hF4.out.c0
      have k4 := hF4.out.c1
      have k5 := hF4.out.c2
      have HST := Lib.hid hst
      clear hst
      unfold fnV at HN
      go_wp2_with fail
      refine HN.out.mono ?_
      rintro e w3 ⟨B, d, rfl, hl, hB3, hlo3⟩
      clear k3 k4 k5 s2 HN
      obtain ⟨hh, hhe⟩ : ∃ hh, o - tk + pt = hh := ⟨_, rfl⟩
      rw [hhe] at HST c2
      rw [hhe]
      have hh0 : 0 ≤ hh := by omega
      have hh1 : hh ≠ -1 := by omega
      obtain ⟨S, hS⟩ : ∃ S, hstep hh (nx f.code pc) out row = S := ⟨_, rfl⟩
      rw [hS] at HST
      have HS := Lib.hid hS
      have HHE := Lib.hid hhe
      have HL := Lib.hid hl
      have HSZ3 := Lib.hid (Nat.le_trans HSZ.out (Nat.le_trans HUB.out.size hB3.size))
      have HB3 := Lib.hid (below_trans HBb.out hB3)
      have HQ3 := Lib.hid ((HQ.out.below HUB.out).below hB3)
      have HR3 := Lib.hid ((HR.out.below HUB.out).below hB3)
      have hBa : ∀ a, B = some a → Apart (.slice (some ⟨gq, off, none⟩) (row.length + 1) cap) a.block ∧ a.block ≠ g := fun a e => by
        have h1 := hlo3 a e
        have h2 := HQ.out.lt.2
        have h3 := HUB.out.size
        have h4 := blk_lt HR.out
        exact ⟨fun e => by
          have e2 : gq = a.block := Option.some.inj e
          omega, by omega⟩
      have HBA := Lib.hid hBa
      clear hS hhe hl hB3 hlo3 hBa HQ HR HUB hF4 HBb
      have hn2 := nx_len f.code pc
      go_wp2_with fail
      go_loopw [7, 89] (fun v i w4 => ∃ (j : Nat) (out' : List Int) (row' : List Nat), i = .int .i64 j ∧ j ≤ (nx f.code pc).length ∧ HInv f.code out' (pc :: row') ∧ hstep hh ((nx f.code pc).drop j) out' row' = S ∧ unsetH out' + row'.length = unsetH out + row.length ∧ ORow w4 w2.heap.size 3 1 v (row'.length + 1) (intsV (natsI (pc :: row'))) ∧ RowAt 3 g (intsV out') w4 ∧ Below w.heap.size w w4 ∧ ReadsI w4 B (natsI (nx f.code pc)) ∧ (∀ a, B = some a → Apart v a.block ∧ a.block ≠ g) ∧ w2.heap.size ≤ w4.heap.size) (fun _ i _ => (nx f.code pc).length - (intOf i).toNat)
      case atStart => exact ⟨0, out, row, rfl, by omega, HI.out, by rw [List.drop_zero]; exact HS.out, rfl, HQ3.out, HR3.out, HB3.out, HL.out, HBA.out, HSZ3.out⟩
      case round =>
        obtain ⟨j, out', row', rfl, hj, hi', hs', hmu', hq', hr', hb', hl', hba', hsz'⟩ := hrel
        have HSZ' := Lib.hid hsz'
        have HI' := Lib.hid hi'
        have HS' := Lib.hid hs'
        have HQ' := Lib.hid hq'
        have HR' := Lib.hid hr'
        have HB' := Lib.hid hb'
        have HL' := Lib.hid hl'
        have HBA' := Lib.hid hba'
        have HMU := Lib.hid hmu'
        clear hi' hs' hq' hr' hb' hl' hba' hmu' hsz' HQ3 HR3 HB3 HL HBA HS
        by_cases hlt : j < (nx f.code pc).length
        · obtain ⟨t, et⟩ : ∃ t, (nx f.code pc)[j] = t := ⟨_, rfl⟩
          have htm : t ∈ nx f.code pc := et ▸ List.getElem_mem hlt
          have htL : t < f.code.length := nx_lt HC.out htm
          have htl : t < out'.length := by rw [HI'.out.len]; exact htL
          have hdrop : (nx f.code pc).drop j = t :: (nx f.code pc).drop (j + 1) := by rw [← et]; exact List.drop_eq_getElem_cons hlt
          obtain ⟨adB, eB, cB⟩ := HL'.out.at_ (k := j) (by rw [natsI_len]; exact hlt)
          rw [natsI_get _ _ hlt, et] at cB
          subst eB
          have hs' := HS'.out
          rw [hdrop] at hs'
          have hnew := hstep_cons_new (h := hh) (ts := (nx f.code pc).drop (j + 1)) (row := row') htl
          have hsame := hstep_cons_same (h := hh) (ts := (nx f.code pc).drop (j + 1)) (row := row') htl hh1
          have hdif := hstep_cons_bad (h := hh) (ts := (nx f.code pc).drop (j + 1)) (row := row') htl
          have hsnd := HI'.out.sound t htl
          have hmark := fun h8 => HI'.out.mark (v := hh) HRC.out htm htl hh0 h8
          have huns := unsetH_set (h := hh) htl
          have c5 := ints_cell HR'.out htl
          have f5 := HR'.out.free t
          obtain ⟨ot, hot⟩ : ∃ ot, out'[t] = ot := ⟨_, rfl⟩
          rw [hot] at hnew hsame hdif hsnd huns c5
          rw [hs'] at hnew hsame hdif
          have HNEW := Lib.hid hnew
          have HSAME := Lib.hid hsame
          have HDIF := Lib.hid hdif
          have HUNS := Lib.hid huns
          have HMARK := Lib.hid hmark
          clear hs' hdrop et htm hnew hsame hdif hsnd hmark huns hot
          by_cases e1 : ot = -1
          · have d5 : (ot == -1) = true := by simpa using e1
            have HN2 := Lib.hid (HNEW.out e1)
            have kc : Chg (fun k => k = g) wr (wr.setCell ⟨g, t, none⟩ (.int .i64 hh)) := Chg.put (S := fun k => k = g) (Chg.refl _ wr) (a := ⟨g, t, none⟩) rfl _
            have hq5 := HQ'.out
            have hqlo := hq5.lo
            obtain ⟨ao5, cap5, rfl, _, _⟩ := hq5.shape
            have hqn : ∀ k, (Value.slice ao5 (row'.length + 1) cap5).ownBlock = some k → ¬ k = g := fun k hk => by have := hqlo k hk; omega
            have bk := below_alloc (Below.refl (wr.setCell ⟨g, t, none⟩ (.int .i64 hh)).heap.size _) (.cells #[.int .i64 t] 3)
            have R5 := Lib.hid ((ints_put HR'.out t hh).below bk)
            have Q5 := Lib.hid ((hq5.chg kc hqn).below bk)
            have L5 := Lib.hid ((HL'.out.chg kc (fun a e => (HBA'.out a e).2)).below bk)
            have hz5 : (wr.setCell ⟨g, t, none⟩ (.int .i64 hh)).heap.size = wr.heap.size := by simp
            have B5 := Lib.hid (below_alloc (Below.setCell HB'.out (p := ⟨g, t, none⟩) (by simp; omega) (.int .i64 hh)) (.cells #[.int .i64 t] 3))
            have src : ReadsI ((wr.setCell ⟨g, t, none⟩ (.int .i64 hh)).alloc (.cells #[.int .i64 t] 3)) (some ⟨wr.heap.size, 0, none⟩) [(t : Int)] := by
              have := RowAt.new 3 (intsV [(t : Int)]) (wr.setCell ⟨g, t, none⟩ (.int .i64 hh))
              rw [hz5] at this
              exact ints_reads (vs := []) (by rw [List.append_nil]; exact this) (by simp)
            have SRC := Lib.hid src
            have KC := Lib.hid kc
            have HQN := Lib.hid hqn
            have HZ := Lib.hid hz5
            have hrl := hq5.len
            rw [Nat.mul_one] at hrl
            clear kc hq5 hqlo hqn bk src hrl hz5
            go_upto_region 19 with fail
            go_wp2_with (first | (at_builtin; refine wpList_app_int _ rfl _ _ rfl w2.heap.size _ _ _ rfl Q5.out ?c1 _ _ _ [(t : Int)] rfl rfl SRC.out ?c2 ?_; rotate_left 2; intro v' w5 hG) | fail)
            case c1 => have := HZ.out; have := HSZ'.out; simp; omega
            case c2 =>
              have := HMU.out
              simp at hmu
              omega
            have hrow := hG.row
            have hap := HQN.out
            have hne : (Value.slice ao5 (row'.length + 1) cap5).ownBlock ≠ some g := fun e => hap g e rfl
            have hR5 := R5.out.grown hG.kept hne
            have hB5 := B5.out.grown hG.kept (by have := HB'.out.size; simp; omega) (fun k hk => by have := Q5.out.lo k hk; have := B2.out.size; omega)
            have hL5 := L5.out.grown hG.kept (fun a e => (HBA'.out a e).1)
            have hA5 : ∀ a, some adB = some a → Apart v' a.block ∧ a.block ≠ g := fun a e => ⟨hG.apart (by
              have h1 := HL'.out.lt_block (by rw [natsI_len]; omega) a e
              simp; omega) (HBA'.out a e).1, (HBA'.out a e).2⟩
            have hZ5 : w2.heap.size ≤ w5.heap.size := by have := HSZ'.out; have := hG.kept.size; simp at this; omega
            have H5 := Lib.hid (And.intro hrow (And.intro hR5 (And.intro hB5 (And.intro hL5 (And.intro hA5 hZ5)))))
            clear hG hrow hap hne hR5 hB5 hL5 hA5 hZ5
            go_roundw
            case rel => exact ⟨j + 1, out'.set t hh, row' ++ [t], by go_num, by omega, by
              have := HMARK.out (by omega)
              rwa [List.cons_append] at this, HN2.out.symm, by
              have := HUNS.out e1 hh1
              have := HMU.out
              simp; omega, by
              have := H5.out.1
              rw [show natsI (pc :: row') ++ [(t : Int)] = natsI (pc :: (row' ++ [t])) by simp [natsI]] at this
              rw [List.length_append]
              exact this, H5.out.2.1, H5.out.2.2.1, H5.out.2.2.2.1, H5.out.2.2.2.2.1, H5.out.2.2.2.2.2⟩
            case measure => simp only [intOf]; omega
          · have d5 : (ot == -1) = false := by simpa using e1
            by_cases e2 : ot = hh
            · have d6 : (ot == hh) = true := by simpa using e2
              have HN2 := Lib.hid (HSAME.out e2)
              go_wp2_with fail
              go_roundw
              case rel => exact ⟨j + 1, out', row', by go_num, by omega, HI'.out, HN2.out.symm, HMU.out, HQ'.out, HR'.out, HB'.out, HL'.out, HBA'.out, HSZ'.out⟩
              case measure => simp only [intOf]; omega
            · have d6 : (ot == hh) = false := by simpa using e2
              have HN2 := Lib.hid (HDIF.out e1 e2)
              go_wp2_with fail
              go_ret2
              rw [HRes.out, ← HW.out, HST.out, HN2.out]
              exact ⟨_, rfl, fault_new _ _ _, below_alloc HB'.out _⟩
        · obtain rfl : j = (nx f.code pc).length := by omega
          have hs' := HS'.out
          rw [List.drop_length] at hs'
          have hst := HST.out
          rw [← hs'] at hst
          have HW2 := Lib.hid (hst.symm.trans HW.out)
          have hq5 := HQ'.out
          obtain ⟨ao2, cap2, rfl, _⟩ := hq5.shape
          rw [natsI_cons] at hq5
          obtain ⟨v', hrun, hq6, hob, -⟩ := hq5.tail_int
          rw [natsI_len] at hq6
          have HQ6 := Lib.hid hq6
          have HIt := Lib.hid HI'.out.tail
          clear hs' hst hq5 hq6 hob
          go_wp2_with fail
          go_roundg m'
          case measure => omega
          case rel => exact ⟨out', row', HIt.out, HW2.out, by have := HMU.out; simp at hmu; omega, by omega, HQ6.out, HR'.out, HB'.out, HSZ'.out⟩
end Go.Proofs.YtjghibdlmmjobaaGreatDoor
