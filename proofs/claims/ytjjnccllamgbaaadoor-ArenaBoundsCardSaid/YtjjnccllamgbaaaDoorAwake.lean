/- The law's own look that the arena is one: it says yes. Condition: errors.errorType holds the handle of 'error'. -/
import Derived.Test.YtjjnccllamgbaaaDoorAny
namespace Go.Proofs.YtjjnccllamgbaaaDoor
open Go.RowKit

theorem lit2_reads (w : World) (x y : Slot) : ReadsS (w.alloc (.cells (sFlat [x, y]).toArray 56)) (some ⟨w.heap.size, 0, none⟩) [x, y] :=
  ⟨by simp, fun _ => ⟨w.heap.size, rfl, fun k hk => by
    have e (j : Nat) (hj : j < 4) : (w.alloc (.cells (sFlat [x, y]).toArray 56)).cell? ⟨w.heap.size, k * 4 + j, none⟩ = (sCells [x, y][k])[j]? := by
      rw [blk_cell (blk_new w _)]; simpa using sFlat_get [x, y] k j hk hj
    exact ⟨(e 0 (by omega)).trans rfl, (e 1 (by omega)).trans rfl, (e 2 (by omega)).trans rfl, (e 3 (by omega)).trans rfl⟩⟩⟩
theorem OwnS.below {w w1 : World} {base g cap : Nat} {xs : List Slot} (h : OwnS w base g cap xs) (hb : Below w.heap.size w w1) : OwnS w1 base g cap xs :=
  ⟨h.own.kept (row := none) ⟨hb.os, hb.tape, hb.output, hb.size, fun i hi _ => hb.block i hi⟩ (.inr (by simp [Value.ownBlock]))⟩

theorem below_drewN {w w1 : World} (h : Below w.heap.size w w1) (n : Nat) : Below w.heap.size w (w1.drewN n) := ⟨h.os, h.tape, h.output, h.size, h.block⟩

set_option maxRecDepth 100000 in
set_option maxHeartbeats 4000000 in
theorem awake_yes (w : World) (hG : Glob w) : Calls Tryd.prog 11 #[] w fun e w' => e = .returned (.bool true) ∧ Below w.heap.size w w' := by
  go_enter Tryd.func11, Tryd.ntmps11
  go_wp2_with fail
  refine (new_ok 2 w (by omega) (by omega)).mono ?_
  rintro e w1 ⟨g, gs, rfl, hA, hg, hgs, hB⟩
  have m1 : Mine 58 w g gs [zSlot, zSlot] w1 := ⟨hA, hgs, hB⟩
  clear hA hB
  have M1 := Lib.hid m1
  clear m1
  go_wp2_with (go_at_call 10; go_in)
  refine (take_do M1.out 3).mono ?_
  rintro e w2 ⟨rfl, m1, _⟩
  have e1 : takeF [zSlot, zSlot] 3 = ([⟨1, 1, 3, 0⟩, zSlot], (0, 1, 0)) := by kernel_rfl
  rw [e1] at m1
  simp only [e1]
  clear e1 M1
  have M1 := Lib.hid m1
  clear m1
  go_wp2_with (go_at_call 10; go_in)
  refine (publish_do hG M1.out 0 1).mono ?_
  rintro e w3 ⟨rfl, m1, _⟩
  have e1 : pubF [⟨1, 1, 3, 0⟩, zSlot] 0 1 = ([⟨1, 2, 3, 0⟩, zSlot], 0) := by kernel_rfl
  rw [e1] at m1
  simp only [e1]
  clear e1 M1
  have M1 := Lib.hid m1
  clear m1
  go_wp2_with (go_at_call 10; go_in)
  refine (retire_do hG M1.out 0 1 5).mono ?_
  rintro e w4 ⟨rfl, m1, _⟩
  have e1 : retF [⟨1, 2, 3, 0⟩, zSlot] 0 1 5 = ([⟨1, 3, 3, 5⟩, zSlot], 0) := by kernel_rfl
  rw [e1] at m1
  simp only [e1]
  clear e1 M1
  have M1 := Lib.hid m1
  clear m1
  go_wp2_with (go_at_call 10; go_in)
  refine (take_do M1.out 4).mono ?_
  rintro e w5 ⟨rfl, m1, _⟩
  have e1 : takeF [⟨1, 3, 3, 5⟩, zSlot] 4 = ([⟨1, 3, 3, 5⟩, ⟨1, 1, 4, 0⟩], (1, 1, 0)) := by kernel_rfl
  rw [e1] at m1
  simp only [e1]
  clear e1 M1
  have M1 := Lib.hid m1
  clear m1
  go_wp2_with (go_at_call 10; go_in)
  refine (take_do M1.out 1).mono ?_
  rintro e w6 ⟨rfl, m1, _⟩
  have e1 : takeF [⟨1, 3, 3, 5⟩, ⟨1, 1, 4, 0⟩] 1 = ([⟨1, 3, 3, 5⟩, ⟨1, 1, 4, 0⟩], (0, 0, 2301)) := by kernel_rfl
  rw [e1] at m1
  simp only [e1]
  clear e1 M1
  have M1 := Lib.hid m1
  clear m1
  go_wp2_with (go_at_call 10; go_in)
  refine (free_do hG M1.out 0 1).mono ?_
  rintro e w7 ⟨rfl, m1, _⟩
  have e1 : freeF [⟨1, 3, 3, 5⟩, ⟨1, 1, 4, 0⟩] 0 1 = ([⟨1, 0, 0, 0⟩, ⟨1, 1, 4, 0⟩], 0) := by kernel_rfl
  rw [e1] at m1
  simp only [e1]
  clear e1 M1
  have M1 := Lib.hid m1
  clear m1
  go_wp2_with (go_at_call 10; go_in)
  refine (free_do hG M1.out 0 1).mono ?_
  rintro e w8 ⟨rfl, m1, _⟩
  have e1 : freeF [⟨1, 0, 0, 0⟩, ⟨1, 1, 4, 0⟩] 0 1 = ([⟨1, 0, 0, 0⟩, ⟨1, 1, 4, 0⟩], 2300) := by kernel_rfl
  rw [e1] at m1
  simp only [e1]
  clear e1 M1
  have M1 := Lib.hid m1
  clear m1
  go_wp2_with (go_at_call 10; go_in)
  refine (take_do M1.out 2).mono ?_
  rintro e w9 ⟨rfl, m1, _⟩
  have e1 : takeF [⟨1, 0, 0, 0⟩, ⟨1, 1, 4, 0⟩] 2 = ([⟨2, 1, 2, 0⟩, ⟨1, 1, 4, 0⟩], (0, 2, 0)) := by kernel_rfl
  rw [e1] at m1
  simp only [e1]
  clear e1 M1
  have M1 := Lib.hid m1
  clear m1
  go_wp2_with (go_at_call 10; go_in)
  refine (slots_do M1.out (by simp)).mono ?_
  rintro e w10 ⟨g2, cap, rfl, hO, hB⟩
  have m1 := M1.out.below hB
  clear M1 hB
  have M1 := Lib.hid m1.B
  have HO := Lib.hid hO
  clear m1 hO
  go_wp2_with fail
  refine (new_bad 0 _ (by omega)).mono ?_
  rintro e w11 ⟨rfl, rfl⟩
  go_wp2_with (go_at_call 10; go_in)
  have b1 : Below w10.heap.size w10 (w10.alloc (.cells (sFlat [⟨2, 1, 2, 0⟩, ⟨1, 1, 4, 0⟩]).toArray 56)) := below_alloc (Below.refl _ _) _
  have HS := Lib.hid (same_slots (some ⟨g2, 0, none⟩) (some ⟨w10.heap.size, 0, none⟩) cap 2 [⟨2, 1, 2, 0⟩, ⟨1, 1, 4, 0⟩] [⟨2, 1, 2, 0⟩, ⟨1, 1, 4, 0⟩] (w10.alloc (.cells (sFlat [⟨2, 1, 2, 0⟩, ⟨1, 1, 4, 0⟩]).toArray 56)) ((HO.out.below b1).reads (by simp)) (lit2_reads _ _ _))
  have HB := Lib.hid (below_trans M1.out b1)
  clear b1
  refine HS.out.mono ?_
  rintro e w11 ⟨⟨b, rfl, hb⟩, n, rfl⟩
  obtain rfl : b = true := hb.2 rfl
  have HB2 := Lib.hid (below_drewN HB.out n)
  clear hb HS HO HB
  go_wp2_with (go_at_call 10; go_in)
  refine (free_nil _ _ _ (hG.below HB2.out)).mono ?_
  rintro e w12 ⟨rfl, hB⟩
  have HB3 := Lib.hid (below_trans HB2.out hB)
  clear HB2 hB
  go_wp2_with (go_at_call 10; go_in)
  refine (slots_nil _).mono ?_
  rintro e w13 ⟨rfl, rfl⟩
  go_wp2
  go_ret
  exact ⟨rfl, HB3.out⟩
end Go.Proofs.YtjjnccllamgbaaaDoor
