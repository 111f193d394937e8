/- The arena's Publish, Retire, Free: what each answers, what becomes of the slots. Conditions: the arena lies in memory as its slots say; errors.errorType holds the handle of 'error'. -/
import Derived.Test.YtjjnccllamgbaaaDoorSlot
import Derived.Test.YtjjnccllamgbaaaDoorTold
namespace Go.Proofs.YtjjnccllamgbaaaDoor
open Go.RowKit

def Glob (w : World) : Prop := w.cell? ⟨0, 0, none⟩ = some (.iface 88 (.agg #[.pointer (some ⟨1, 63, none⟩)]))
theorem Glob.below {w w1 : World} (h : Glob w) (hb : Below w.heap.size w w1) : Glob w1 := (hb.cell (World.block_lt_of_cell? w _ h)).trans h

theorem reads_lit1 (w : World) (x : Int) (T : TypeId) : ReadsI (w.alloc (.cells #[.int .i64 x] T)) (some ⟨w.heap.size, 0, none⟩) [x] :=
  ⟨by simp, fun _ => ⟨_, rfl, fun j hj => by
    obtain rfl : j = 0 := by simp at hj; omega
    rw [add_plain, blk_cell (blk_new w _)]; rfl⟩⟩
theorem reads_lit2 (w : World) (x y : Int) (T : TypeId) : ReadsI (w.alloc (.cells #[.int .i64 x, .int .i64 y] T)) (some ⟨w.heap.size, 0, none⟩) [x, y] :=
  ⟨by simp, fun _ => ⟨_, rfl, fun j hj => by
    rw [add_plain, blk_cell (blk_new w _)]
    have : j = 0 ∨ j = 1 := by simp at hj; omega
    rcases this with rfl | rfl <;> rfl⟩⟩
theorem ArenaAt.free {T g gs : Nat} {w : World} {xs : List Slot} (h : ArenaAt T w g gs xs) (j : Nat) : w.frozen? ⟨gs, j, none⟩ = false := blk_free h.s j

set_option maxHeartbeats 1000000 in
theorem publish_nil (s n : Int) (w : World) (hG : Glob w) :
    Calls Tryd.prog 14 #[.pointer none, .int .i64 s, .int .i64 n] w fun e w' => e = .returned (.int .i64 1) ∧ Below w.heap.size w w' := by
  have b1 : Below w.heap.size w (w.alloc (.cells #[.int .i64 1] 3)) := below_alloc (Below.refl _ _) _
  have HB := Lib.hid b1
  clear b1
  go_enter Tryd.func14, Tryd.ntmps14
  go_wp2_with fail
  refine (slot_nil _ _ _ _).mono ?_
  rintro e w1 ⟨b, rfl, hc, hB1⟩
  have hB2 := below_trans HB.out hB1
  have HT := Lib.hid (told_chain ⟨b, 0, none⟩ 1 w1 (hG.below hB2) hc)
  have H2 := Lib.hid hB2
  clear hc hB1 hB2
  go_wp2_with fail
  refine HT.out.mono ?_
  rintro e w2 ⟨rfl, hB3⟩
  have H3 := Lib.hid (below_trans H2.out hB3)
  clear hB3
  go_wp2
  go_ret
  exact ⟨rfl, H3.out⟩

set_option maxHeartbeats 1000000 in
theorem publish_no (g gs : Nat) (xs : List Slot) (s n : Int) (w : World) (hG : Glob w) (h : ArenaAt 58 w g gs xs) (hb : atB xs s n [1] = false) :
    Calls Tryd.prog 14 #[.pointer (some ⟨g, 0, none⟩), .int .i64 s, .int .i64 n] w (Did 58 g gs xs 2300 w) := by
  have b1 : Below w.heap.size w (w.alloc (.cells #[.int .i64 1] 3)) := below_alloc (Below.refl _ _) _
  have HS := Lib.hid (slot_no g gs xs s n (some ⟨w.heap.size, 0, none⟩) 1 [1] _ (h.below b1) (reads_lit1 w 1 3) hb)
  have HB := Lib.hid b1
  clear b1
  go_enter Tryd.func14, Tryd.ntmps14
  go_wp2_with fail
  refine HS.out.mono ?_
  rintro e w1 ⟨b, rfl, hc, hB1⟩
  have hB2 := below_trans HB.out hB1
  have HT := Lib.hid (told_chain ⟨b, 0, none⟩ 2300 w1 (hG.below hB2) hc)
  have H2 := Lib.hid hB2
  clear hc hB1 hB2
  go_wp2_with fail
  refine HT.out.mono ?_
  rintro e w2 ⟨rfl, hB3⟩
  have H3 := Lib.hid (below_trans H2.out hB3)
  clear hB3
  go_wp2
  go_ret
  exact ⟨rfl, h.below H3.out, Keeps.of_below H3.out⟩

set_option maxHeartbeats 1000000 in
theorem publish_yes (g gs : Nat) (xs : List Slot) (k : Nat) (n : Int) (w : World) (h : ArenaAt 58 w g gs xs) (hk : k < xs.length) (hg : xs[k].gen = n) (hs : xs[k].state ∈ ([1] : List Int)) :
    Calls Tryd.prog 14 #[.pointer (some ⟨g, 0, none⟩), .int .i64 k, .int .i64 n] w (Did 58 g gs (xs.set k { xs[k] with state := 2 }) 0 w) := by
  have b1 : Below w.heap.size w (w.alloc (.cells #[.int .i64 1] 3)) := below_alloc (Below.refl _ _) _
  have h1 := h.below b1
  have HS := Lib.hid (slot_yes g gs xs k n (some ⟨w.heap.size, 0, none⟩) 1 [1] _ h1 hk hg (reads_lit1 w 1 3) hs)
  obtain ⟨c0, c1, c2, c3⟩ := h1.cell hk
  have f0 := h1.free (k * 4)
  have f1 := h1.free (k * 4 + 1)
  have f2 := h1.free (k * 4 + 2)
  have f3 := h1.free (k * 4 + 3)
  have H1 := Lib.hid h1
  have K1 := Lib.hid (Keeps.of_below (gs := gs) b1)
  have HG := Lib.hid hg
  clear b1 h1 h hg hs
  go_enter Tryd.func14, Tryd.ntmps14
  go_wp2_with fail
  refine HS.out.mono ?_
  rintro e w1 ⟨rfl, rfl⟩
  go_wp2
  go_ret
  exact ⟨rfl, H1.out.put hk 1 (by omega) _ _ rfl, K1.out.put _ _⟩

set_option maxHeartbeats 1000000 in
theorem retire_nil (s n q : Int) (w : World) (hG : Glob w) :
    Calls Tryd.prog 16 #[.pointer none, .int .i64 s, .int .i64 n, .int .i64 q] w fun e w' => e = .returned (.int .i64 1) ∧ Below w.heap.size w w' := by
  have b1 : Below w.heap.size w (w.alloc (.cells #[.int .i64 2] 3)) := below_alloc (Below.refl _ _) _
  have HB := Lib.hid b1
  clear b1
  go_enter Tryd.func16, Tryd.ntmps16
  go_wp2_with fail
  refine (slot_nil _ _ _ _).mono ?_
  rintro e w1 ⟨b, rfl, hc, hB1⟩
  have hB2 := below_trans HB.out hB1
  have HT := Lib.hid (told_chain ⟨b, 0, none⟩ 1 w1 (hG.below hB2) hc)
  have H2 := Lib.hid hB2
  clear hc hB1 hB2
  go_wp2_with fail
  refine HT.out.mono ?_
  rintro e w2 ⟨rfl, hB3⟩
  have H3 := Lib.hid (below_trans H2.out hB3)
  clear hB3
  go_wp2
  go_ret
  exact ⟨rfl, H3.out⟩

set_option maxHeartbeats 1000000 in
theorem retire_no (g gs : Nat) (xs : List Slot) (s n q : Int) (w : World) (hG : Glob w) (h : ArenaAt 58 w g gs xs) (hb : atB xs s n [2] = false) :
    Calls Tryd.prog 16 #[.pointer (some ⟨g, 0, none⟩), .int .i64 s, .int .i64 n, .int .i64 q] w (Did 58 g gs xs 2300 w) := by
  have b1 : Below w.heap.size w (w.alloc (.cells #[.int .i64 2] 3)) := below_alloc (Below.refl _ _) _
  have HS := Lib.hid (slot_no g gs xs s n (some ⟨w.heap.size, 0, none⟩) 1 [2] _ (h.below b1) (reads_lit1 w 2 3) hb)
  have HB := Lib.hid b1
  clear b1
  go_enter Tryd.func16, Tryd.ntmps16
  go_wp2_with fail
  refine HS.out.mono ?_
  rintro e w1 ⟨b, rfl, hc, hB1⟩
  have hB2 := below_trans HB.out hB1
  have HT := Lib.hid (told_chain ⟨b, 0, none⟩ 2300 w1 (hG.below hB2) hc)
  have H2 := Lib.hid hB2
  clear hc hB1 hB2
  go_wp2_with fail
  refine HT.out.mono ?_
  rintro e w2 ⟨rfl, hB3⟩
  have H3 := Lib.hid (below_trans H2.out hB3)
  clear hB3
  go_wp2
  go_ret
  exact ⟨rfl, h.below H3.out, Keeps.of_below H3.out⟩

set_option maxHeartbeats 1000000 in
theorem retire_yes (g gs : Nat) (xs : List Slot) (k : Nat) (n q : Int) (w : World) (h : ArenaAt 58 w g gs xs) (hk : k < xs.length) (hg : xs[k].gen = n) (hs : xs[k].state ∈ ([2] : List Int)) (hq : decide (q < 0) = false) :
    Calls Tryd.prog 16 #[.pointer (some ⟨g, 0, none⟩), .int .i64 k, .int .i64 n, .int .i64 q] w (Did 58 g gs (xs.set k { xs[k] with state := 3, stamp := q }) 0 w) := by
  have b1 : Below w.heap.size w (w.alloc (.cells #[.int .i64 2] 3)) := below_alloc (Below.refl _ _) _
  have h1 := h.below b1
  have HS := Lib.hid (slot_yes g gs xs k n (some ⟨w.heap.size, 0, none⟩) 1 [2] _ h1 hk hg (reads_lit1 w 2 3) hs)
  obtain ⟨c0, c1, c2, c3⟩ := h1.cell hk
  have f0 := h1.free (k * 4)
  have f1 := h1.free (k * 4 + 1)
  have f2 := h1.free (k * 4 + 2)
  have f3 := h1.free (k * 4 + 3)
  have H1 := Lib.hid h1
  have K1 := Lib.hid (Keeps.of_below (gs := gs) b1)
  have HG := Lib.hid hg
  clear b1 h1 h hg hs
  go_enter Tryd.func16, Tryd.ntmps16
  go_wp2_with fail
  refine HS.out.mono ?_
  rintro e w1 ⟨rfl, rfl⟩
  go_wp2
  go_ret
  have h2 := H1.out.put hk 1 (by omega) (.int .i64 3) { xs[k] with state := 3 } rfl
  have h3 := h2.put (k := k) (by simpa using hk) 3 (by omega) (.int .i64 q) { xs[k] with state := 3, stamp := q } (by simp [sCells])
  rw [List.set_set] at h3
  exact ⟨rfl, h3, (K1.out.put _ _).put _ _⟩

set_option maxHeartbeats 1000000 in
theorem free_nil (s n : Int) (w : World) (hG : Glob w) :
    Calls Tryd.prog 18 #[.pointer none, .int .i64 s, .int .i64 n] w fun e w' => e = .returned (.int .i64 1) ∧ Below w.heap.size w w' := by
  have b1 : Below w.heap.size w (w.alloc (.cells #[.int .i64 1, .int .i64 3] 3)) := below_alloc (Below.refl _ _) _
  have HB := Lib.hid b1
  clear b1
  go_enter Tryd.func18, Tryd.ntmps18
  go_wp2_with fail
  refine (slot_nil _ _ _ _).mono ?_
  rintro e w1 ⟨b, rfl, hc, hB1⟩
  have hB2 := below_trans HB.out hB1
  have HT := Lib.hid (told_chain ⟨b, 0, none⟩ 1 w1 (hG.below hB2) hc)
  have H2 := Lib.hid hB2
  clear hc hB1 hB2
  go_wp2_with fail
  refine HT.out.mono ?_
  rintro e w2 ⟨rfl, hB3⟩
  have H3 := Lib.hid (below_trans H2.out hB3)
  clear hB3
  go_wp2
  go_ret
  exact ⟨rfl, H3.out⟩

set_option maxHeartbeats 1000000 in
theorem free_no (g gs : Nat) (xs : List Slot) (s n : Int) (w : World) (hG : Glob w) (h : ArenaAt 58 w g gs xs) (hb : atB xs s n [1, 3] = false) :
    Calls Tryd.prog 18 #[.pointer (some ⟨g, 0, none⟩), .int .i64 s, .int .i64 n] w (Did 58 g gs xs 2300 w) := by
  have b1 : Below w.heap.size w (w.alloc (.cells #[.int .i64 1, .int .i64 3] 3)) := below_alloc (Below.refl _ _) _
  have HS := Lib.hid (slot_no g gs xs s n (some ⟨w.heap.size, 0, none⟩) 2 [1, 3] _ (h.below b1) (reads_lit2 w 1 3 3) hb)
  have HB := Lib.hid b1
  clear b1
  go_enter Tryd.func18, Tryd.ntmps18
  go_wp2_with fail
  refine HS.out.mono ?_
  rintro e w1 ⟨b, rfl, hc, hB1⟩
  have hB2 := below_trans HB.out hB1
  have HT := Lib.hid (told_chain ⟨b, 0, none⟩ 2300 w1 (hG.below hB2) hc)
  have H2 := Lib.hid hB2
  clear hc hB1 hB2
  go_wp2_with fail
  refine HT.out.mono ?_
  rintro e w2 ⟨rfl, hB3⟩
  have H3 := Lib.hid (below_trans H2.out hB3)
  clear hB3
  go_wp2
  go_ret
  exact ⟨rfl, h.below H3.out, Keeps.of_below H3.out⟩

set_option maxHeartbeats 1000000 in
theorem free_yes (g gs : Nat) (xs : List Slot) (k : Nat) (n : Int) (w : World) (h : ArenaAt 58 w g gs xs) (hk : k < xs.length) (hg : xs[k].gen = n) (hs : xs[k].state ∈ ([1, 3] : List Int)) :
    Calls Tryd.prog 18 #[.pointer (some ⟨g, 0, none⟩), .int .i64 k, .int .i64 n] w (Did 58 g gs (xs.set k ⟨n, 0, 0, 0⟩) 0 w) := by
  have b1 : Below w.heap.size w (w.alloc (.cells #[.int .i64 1, .int .i64 3] 3)) := below_alloc (Below.refl _ _) _
  have h1 := h.below b1
  have HS := Lib.hid (slot_yes g gs xs k n (some ⟨w.heap.size, 0, none⟩) 2 [1, 3] _ h1 hk hg (reads_lit2 w 1 3 3) hs)
  obtain ⟨c0, c1, c2, c3⟩ := h1.cell hk
  have f0 := h1.free (k * 4)
  have f1 := h1.free (k * 4 + 1)
  have f2 := h1.free (k * 4 + 2)
  have f3 := h1.free (k * 4 + 3)
  have H1 := Lib.hid h1
  have K1 := Lib.hid (Keeps.of_below (gs := gs) b1)
  have HG := Lib.hid hg
  clear b1 h1 h hg hs
  go_enter Tryd.func18, Tryd.ntmps18
  go_wp2_with fail
  refine HS.out.mono ?_
  rintro e w1 ⟨rfl, rfl⟩
  go_wp2
  go_ret
  have h2 := H1.out.put hk 0 (by omega) (.int .i64 n) { xs[k] with gen := n } rfl
  have h3 := h2.put (k := k) (by simpa using hk) 1 (by omega) (.int .i64 0) { xs[k] with gen := n, state := 0 } (by simp [sCells])
  rw [List.set_set] at h3
  have h4 := h3.put (k := k) (by simpa using hk) 2 (by omega) (.int .i64 0) { xs[k] with gen := n, state := 0, fn := 0 } (by simp [sCells])
  rw [List.set_set] at h4
  have h5 := h4.put (k := k) (by simpa using hk) 3 (by omega) (.int .i64 0) ⟨n, 0, 0, 0⟩ (by simp [sCells])
  rw [List.set_set] at h5
  exact ⟨rfl, h5, (((K1.out.put _ _).put _ _).put _ _).put _ _⟩

end Go.Proofs.YtjjnccllamgbaaaDoor
