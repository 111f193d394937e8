/- 'flow.Reached' answers which pcs are come to, in a row of its own. Conditions: the code may be and lies in memory as it is said. -/
import Derived.Test.YtpfgklkdldkajaaDoorNexts
import Derived.Test.YtpfgklkdldkajaaDoorReach
import Derived.Test.YtpfgklkdldkajaaDoorQueue
import Derived.Deep.Cut
namespace Go.Proofs.YtpfgklkdldkajaaDoor
open Go.RowKit

/-- A call that answers marks, in a row of its own, and a number; nothing old turns. -/
def Marks (out : List Bool) (n : Int) (w : World) (e : Ending) (w' : World) : Prop := ∃ g, e = .returned (.tuple #[.slice (some ⟨g, 0, none⟩) out.length out.length, .int .i64 n]) ∧ RowAt 4 g (boolsV out) w' ∧ w.heap.size ≤ g ∧ Below w.heap.size w w'
def natsI (xs : List Nat) : List Int := xs.map (fun n : Nat => (n : Int))
theorem natsI_len (xs : List Nat) : (natsI xs).length = xs.length := by simp [natsI]
theorem natsI_get (xs : List Nat) (k : Nat) (h : k < xs.length) : (natsI xs)[k]'(by rw [natsI_len]; exact h) = (xs[k] : Int) := by simp [natsI]
theorem reachB_len (code : List Ins) : (reachB code).length = code.length := by simp [reachB]

set_option maxRecDepth 100000 in
set_option maxHeartbeats 4000000 in
theorem reached_any (f : Fn) (A : Option Addr) (c : Nat) (w : World) (hr : ReadsC w A f.code) (hm : codeMay f.code = true) :
    Calls Tryd.prog 38 #[fnV f A c] w (Marks (reachB f.code) 0 w) := by
  have b1 : Below w.heap.size w (w.alloc (.cells #[.int .i64 f.args, .int .i64 f.locals, .slice A f.code.length c] 31)) := below_alloc (Below.refl _ _) _
  have hF := fnAt_new f A c w hr
  have HM := Lib.hid (flowMay_any _ f A c _ hF)
  rw [hm] at HM
  have hn : f.code.length ≤ 9223372036854775807 := hr.1
  have HF := Lib.hid hF
  have h0 : 0 < f.code.length := Reach.lt hm .zero
  have h64 : f.code.length ≤ 64 := by unfold codeMay at hm; simp only [Bool.and_eq_true, decide_eq_true_eq] at hm; omega
  have HC := Lib.hid hm
  clear hr hF hm
  unfold fnV
  go_enter Tryd.func38, Tryd.ntmps38
  go_wp2_with fail
  refine HM.out.mono ?_
  rintro e w2 ⟨rfl, hB⟩
  have hF2 := HF.out.below hB
  have c2 := hF2.c2
  have HF2 := Lib.hid hF2
  have B2 := Lib.hid (below_trans b1 hB)
  have hsz := B2.out.size
  clear hF2 hB b1 HF HM
  have hmk := make_bools f.code.length (by omega) w2
  have r0 : RowAt 4 w2.heap.size (boolsV (List.replicate f.code.length false)) (w2.alloc (.cells (boolsV (List.replicate f.code.length false)).toArray 4)) := RowAt.new _ _ _
  have f0 := r0.free 0
  have c0 := bools_cell r0 (k := 0) (by simpa using h0)
  have r1 : RowAt 4 w2.heap.size (boolsV ((List.replicate f.code.length false).set 0 true)) (w2.alloc (.cells ((boolsV (List.replicate f.code.length false)).set 0 (.bool true)).toArray 4)) := by
    have := RowAt.new 4 ((boolsV (List.replicate f.code.length false)).set 0 (.bool true)) w2
    rwa [show (boolsV (List.replicate f.code.length false)).set 0 (.bool true) = boolsV ((List.replicate f.code.length false).set 0 true) by simp only [boolsV, List.map_set]] at this ⊢
  have q1 : QRow ((w2.alloc (.cells ((boolsV (List.replicate f.code.length false)).set 0 (.bool true)).toArray 4)).alloc (.cells #[.int .i64 0] 3)) w2.heap.size (.slice (some ⟨w2.heap.size + 1, 0, none⟩) 1 1) (natsI [0]) := by
    have := RowAt.new 3 (intsV [0]) (w2.alloc (.cells ((boolsV (List.replicate f.code.length false)).set 0 (.bool true)).toArray 4))
    have hs2 : (w2.alloc (.cells ((boolsV (List.replicate f.code.length false)).set 0 (.bool true)).toArray 4)).heap.size = w2.heap.size + 1 := by simp
    rw [hs2] at this
    exact QRow.of_row (xs := [0]) this (by omega) (by simp)
  have bb : Below w2.heap.size w2 ((w2.alloc (.cells ((boolsV (List.replicate f.code.length false)).set 0 (.bool true)).toArray 4)).alloc (.cells #[.int .i64 0] 3)) :=
    below_alloc (below_alloc (Below.refl _ _) _) _
  have r2 := r1.below (below_alloc (Below.refl _ _) (.cells #[.int .i64 0] 3))
  go_wp2_with fail
  clear r0 f0 c0 r1 hmk
  go_loopg [5] (2 * f.code.length + 1) (fun m v wr => ∃ (out : List Bool) (row : List Nat), FInv f.code out row ∧ 2 * unset out + row.length ≤ m ∧ m ≤ 2 * f.code.length + 1 ∧ QRow wr w2.heap.size v (natsI row) ∧ Apart v w2.heap.size ∧ RowAt 4 w2.heap.size (boolsV out) wr ∧ Below w2.heap.size w2 wr)
  case atStart => exact ⟨_, [0], FInv.start HC.out, by
    have : unset ((List.replicate f.code.length false).set 0 true) ≤ f.code.length := Nat.le_trans List.countP_le_length (by simp)
    simp; omega, Nat.le_refl _, q1, by simp [Apart, Value.ownBlock], r2, bb⟩
  case round =>
    obtain ⟨out, row, hi, hmu, hgk, hq, ha, hr, hb⟩ := hrel
    clear q1 r2 bb
    have HI := Lib.hid hi
    have HR := Lib.hid hr
    have HB := Lib.hid hb
    have HA := Lib.hid ha
    clear hi hr hb ha
    rcases row with _ | ⟨pc, row⟩
    · obtain ⟨ao, cap, rfl, _⟩ := hq
      go_wp2_with fail
      go_ret2
      rw [← HI.out.done]
      exact ⟨w2.heap.size, by rw [HI.out.len]; rfl, HR.out, hsz, below_trans B2.out HB.out⟩
    · obtain ⟨ao, cap, rfl, _⟩ := hq.reads
      obtain ⟨g, off, rfl, e1, e2, e3, e4, e5⟩ := hq.tail
      have hpc : pc < f.code.length := by have := (HI.out.inrow pc (by simp)).lt; rw [HI.out.len] at this; exact this
      have HN := Lib.hid (next_any _ f A c pc wr (HF2.out.below HB.out) hpc)
      rw [nx_eq HC.out hpc] at HN
      have HQ := Lib.hid (show QRow wr w2.heap.size (.slice (some ⟨g, off, none⟩) (row.length + 1) cap) (natsI (pc :: row)) from by simpa only [natsI_len, List.length_cons] using hq)
      have E45 := Lib.hid (And.intro e4 e5)
      clear hq e4 e5
      go_wp2_with fail
      refine HN.out.mono ?_
      rintro e w3 ⟨B, d, rfl, hl, hB3, hlo⟩
      rw [List.length_map]
      have hgl : g < wr.heap.size := World.block_lt_of_cell? wr _ e3
      have hbl : w2.heap.size < wr.heap.size := blk_lt HR.out
      have hap : ∀ a, B = some a → Apart (.slice (some ⟨g, off, none⟩) (row.length + 1) cap) a.block := fun a e => by
        have := hlo a e
        simp [Apart, Value.ownBlock]; omega
      have hbn : ∀ a, B = some a → a.block ≠ w2.heap.size := fun a e => by have := hlo a e; omega
      have HL := Lib.hid hl
      have HQ3 := Lib.hid (HQ.out.below hB3)
      have HR3 := Lib.hid (HR.out.below hB3)
      have HB4 := Lib.hid (below_trans HB.out hB3)
      have HAP := Lib.hid hap
      have HBN := Lib.hid hbn
      clear hl hB3 HQ hap hbn hlo HR HB e3
      have hn2 := nx_len f.code pc
      go_wp2_with fail
      go_loopw [5, 27] (fun v i w4 => ∃ (j : Nat) (out' : List Bool) (row' : List Nat), i = .int .i64 j ∧ j ≤ (nx f.code pc).length ∧ FInv f.code out' (pc :: row') ∧ 2 * unset out' + (row'.length + 1) ≤ gk ∧ (∀ x (hx : x < (nx f.code pc).length), x < j → Has out' (nx f.code pc)[x]) ∧ QRow w4 w2.heap.size v (natsI (pc :: row')) ∧ Apart v w2.heap.size ∧ RowAt 4 w2.heap.size (boolsV out') w4 ∧ Below w2.heap.size w2 w4 ∧ ReadsI w4 B (natsI (nx f.code pc)) ∧ (∀ a, B = some a → Apart v a.block)) (fun _ i _ => (nx f.code pc).length - (intOf i).toNat)
      case atStart => exact ⟨0, out, row, rfl, by omega, HI.out, hmu, fun _ _ h => absurd h (by omega), HQ3.out, HA.out, HR3.out, HB4.out, HL.out, HAP.out⟩
      case round =>
        obtain ⟨j, out', row', rfl, hj, hi', hmu', hdone, hq', ha', hr', hb', hl', hap'⟩ := hrel
        have HI' := Lib.hid hi'
        have HD := Lib.hid hdone
        have HQ' := Lib.hid hq'
        have HA' := Lib.hid ha'
        have HR' := Lib.hid hr'
        have HB' := Lib.hid hb'
        have HL' := Lib.hid hl'
        have HAP' := Lib.hid hap'
        clear hi' hdone hq' ha' hr' hb' hl' hap' HQ3 HR3 HB4 HL HAP
        by_cases hlt : j < (nx f.code pc).length
        · obtain ⟨t, et⟩ : ∃ t, (nx f.code pc)[j] = t := ⟨_, rfl⟩
          have htm : t ∈ nx f.code pc := et ▸ List.getElem_mem hlt
          have htl : t < out'.length := by rw [HI'.out.len]; exact nx_lt HC.out htm
          obtain ⟨adB, eB, cB⟩ := HL'.out.at_ (k := j) (by rw [natsI_len]; exact hlt)
          rw [natsI_get _ _ hlt, et] at cB
          subst eB
          have hlt0 : 0 < (natsI (nx f.code pc)).length := by rw [natsI_len]; omega
          have hbl' := blk_lt HR'.out
          have htL : t < f.code.length := nx_lt HC.out htm
          have c5 := bools_cell HR'.out htl
          have f5 := HR'.out.free t
          cases hbt : out'[t] with
          | true =>
            rw [hbt] at c5
            go_wp2_with fail
            go_roundw
            case rel => exact ⟨j + 1, out', row', rfl, by omega, HI'.out, hmu', fun x hx hxj => by
              rcases Nat.lt_or_ge x j with h2 | h2
              · exact HD.out x hx h2
              · obtain rfl : x = j := by omega
                rw [et]; unfold Has; rw [List.getElem?_eq_getElem htl, hbt], HQ'.out, HA'.out, HR'.out, HB'.out, HL'.out, HAP'.out⟩
            case measure => simp only [intOf]; omega
          | false =>
            rw [hbt] at c5
            have kk : Keeps w2.heap.size wr (wr.setCell ⟨w2.heap.size, t, none⟩ (.bool true)) := Keeps.put (Keeps.refl _ _) _ _
            have bk := below_alloc (Below.refl (wr.setCell ⟨w2.heap.size, t, none⟩ (.bool true)).heap.size _) (.cells #[.int .i64 t] 3)
            have R5 := Lib.hid ((bools_put HR'.out t true).below bk)
            have Q5 := Lib.hid ((HQ'.out.keeps kk HA'.out).below bk)
            go_upto_region 13 with fail
            go_wp2_with (first | (at_builtin; refine wpList_append_q _ rfl _ _ rfl w2.heap.size _ _ rfl Q5.out ?c1 _ 1 1 [(t : Int)] rfl rfl (by decide) ?c2 ?c3 ?_; rotate_left 3; intro v' w5 hG) | fail)
            go_roundw
            case rel => exact ⟨j + 1, out'.set t true, row' ++ [t], rfl, by omega, by rw [← List.cons_append]; exact HI'.out.mark (HI'.out.inrow pc (by simp)) htm htl, by
                have := unset_set htl hbt
                simp; omega, fun x hx hxj => by
                rcases Nat.lt_or_ge x j with h2 | h2
                · exact has_set (HD.out x hx h2)
                · obtain rfl : x = j := by omega
                  rw [et]; exact has_set_self htl, by
                have := hG.row
                rwa [show natsI (pc :: row') ++ [(t : Int)] = natsI (pc :: (row' ++ [t])) by simp [natsI]] at this,
              hG.apart (Nat.lt_of_lt_of_le hbl' (by simp)) HA'.out, R5.out.grown hG.kept HA'.out,
              (below_alloc (below_keep HB'.out kk (Nat.le_refl _)) _).grown hG.kept (by have := HB'.out.size; simp; omega) Q5.out.lo,
              ((HL'.out.keeps kk HBN.out).below bk).grown hG.kept HAP'.out, fun a e => hG.apart (by
                have h1 := HL'.out.lt_block hlt0 a e
                simp; omega) (HAP'.out a e)⟩
            case measure => simp only [intOf]; omega
            case c1 => have := HB'.out.size; simp; omega
            case c2 =>
              intro i hi
              obtain rfl : i = 0 := by simpa using hi
              have := blk_new (wr.setCell ⟨w2.heap.size, t, none⟩ (.bool true)) (.cells #[.int .i64 t] 3)
              rw [show (wr.setCell ⟨w2.heap.size, t, none⟩ (.bool true)).heap.size = wr.heap.size by simp] at this
              rw [add_plain]; exact (blk_cell this 0).trans rfl
            case c3 => rw [natsI_len]; simp; omega
        · obtain rfl : j = (nx f.code pc).length := by omega
          have hpop := HI'.out.pop (fun t ht => by
            obtain ⟨x, hx, rfl⟩ := List.mem_iff_getElem.1 ht
            exact HD.out x hx hx)
          have HP := Lib.hid hpop
          have HQa := HQ'.out
          have HAa := HA'.out
          obtain ⟨ao2, cap2, rfl, _⟩ := HQa.reads
          obtain ⟨g2, off2, rfl, e1', e2', _, e4, e5⟩ := HQa.tail
          have HAb := Lib.hid HAa
          clear hpop HQa HAa HQ' HA' HAP'
          by_cases hc1 : cap2 = 1
          · subst hc1
            have HQ6 := Lib.hid (e4 rfl)
            clear e4 e5
            go_wp2_with fail
            go_roundg (2 * unset out' + row'.length)
            case measure => omega
            case rel => exact ⟨out', row', HP.out, Nat.le_refl _, by omega, by have := HQ6.out; rwa [List.length_map] at this, by simpa [Apart, Value.ownBlock] using HAb.out, HR'.out, HB'.out⟩
          · have HQ6 := Lib.hid (e5 (by omega))
            clear e4 e5
            go_wp2_with fail
            go_roundg (2 * unset out' + row'.length)
            case measure => omega
            case rel => exact ⟨out', row', HP.out, Nat.le_refl _, by omega, by have := HQ6.out; rwa [List.length_map] at this, by simpa [Apart, Value.ownBlock] using HAb.out, HR'.out, HB'.out⟩
end Go.Proofs.YtpfgklkdldkajaaDoor
