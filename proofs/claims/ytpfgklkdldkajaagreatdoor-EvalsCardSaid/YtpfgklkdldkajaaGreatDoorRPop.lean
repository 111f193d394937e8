/- 'pop', 'push' of the document's steps: on a frame at a place. Conditions: the frame is the call's own; the stack is not empty, not long. -/
import Derived.Test.YtpfgklkdldkajaaGreatDoorGZ17
namespace Go.Proofs.YtpfgklkdldkajaaGreatDoor
open Go.RowKit

set_option maxRecDepth 100000 in
set_option maxHeartbeats 4000000 in
theorem rpop_at {w : World} {base g off : Nat} {f : Frm} {v1 v2 : Value} (h : FAt w base g off f v1 v2) (hs : 0 < f.stack.length) :
    Calls Tryz.prog 117 #[.pointer (some ⟨g, off, none⟩)] w (FE (.int .i64 (lastN f.stack)) ⟨f.fn, f.pc, f.locals, f.stack.dropLast⟩ base g off v1 v2 w) := by
  obtain ⟨c0, c1, c2', c3, fz⟩ := h.cells
  obtain ⟨g2, off2, L, c2, rfl, hL, hcap, hn, cl, hT⟩ := pop_prep h hs
  have HT := Lib.hid hT
  obtain ⟨i, hi, _⟩ := info_parts info_int
  have RI := run_init (P := Tryz.prog) 28 3 Tryz.underlying28 i hi g2 off2 (L + 1) c2 L (by omega)
  have z3 := fz (off + 3)
  clear h hT hs hL fz c0 c1 c2' hi
  go_enter Tryz.func117, Tryz.ntmps117
  go_wp2_with fail
  go_ret
  exact ⟨_, rfl, HT.out⟩
set_option maxRecDepth 100000 in
set_option maxHeartbeats 4000000 in
theorem rpush_at {w : World} {base g off : Nat} {f : Frm} {v1 v2 : Value} (h : FAt w base g off f v1 v2) (hb : base ≤ w.heap.size) (hs : f.stack.length ≤ 1000) (x : Int) :
    Calls Tryz.prog 99 #[.pointer (some ⟨g, off, none⟩), .int .i64 x] w (FE (.tuple #[]) ⟨f.fn, f.pc, f.locals, f.stack ++ [x]⟩ base g off v1 v2 w) := by
  obtain ⟨A1, c1, A2, c2, rfl, rfl⟩ := h.shape
  have i2' : CRow w base 3 1 (.slice A2 f.stack.length c2) f.stack.length (intsV f.stack) := h.r2
  have b2 := below_alloc (Below.refl w.heap.size w) (.cells #[.int .i64 x] 3)
  have rN := RowAt.new 3 (intsV [x]) w
  have hsrc : Src Tryz.prog 1 28 (.slice (some ⟨w.heap.size, 0, none⟩) 1 1) 1 (intsV [x]) (w.alloc (.cells #[.int .i64 x] 3)) := ints_src (xs := [x]) Tryz.underlying28 (intsL (xs := [x]) rN (by simp)) (fun e => by cases e)
  obtain ⟨i, hi, hz0, hsz, hbb⟩ := info_parts info_int
  have hc2 := i2'.below b2
  have hlt := h.lt
  obtain ⟨v', w1, hrun, hG⟩ := run_append_crow (P := Tryz.prog) (w.alloc (.cells #[.int .i64 x] 3)) 28 3 28 28 i (.int .i64 0) 1 8 Tryz.underlying28 hi hz0 hsz hbb rfl base A2 f.stack.length c2 (intsV f.stack) hc2 (by have := b2.size; omega)
    (.slice (some ⟨w.heap.size, 0, none⟩) 1 1) 1 (intsV [x]) hsrc (by omega) (by unfold maxLen; omega)
  obtain ⟨ao', cap', rfl, _, _⟩ := hG.row.shape
  have hch : Chg (fun b => ob (.slice A2 f.stack.length c2) = some b) w w1 := (Chg.of_below b2).trans hG.chg (fun b _ e => e)
  have hi3 : InnAt w1 base (.slice ao' (f.stack.length + 1) cap') (innI (f.stack ++ [x])) := by
    have hrow := hG.row
    rw [show intsV f.stack ++ intsV [x] = intsV (f.stack ++ [x]) by simp [intsV]] at hrow
    show CRow w1 base 3 1 _ (f.stack ++ [x]).length _
    rw [List.length_append]; exact hrow
  have hat : ∀ b, ob (.slice ao' (f.stack.length + 1) cap') = some b → ob (.slice A2 f.stack.length c2) = some b ∨ w.heap.size ≤ b := fun b e => (hG.at_ b e).imp id (fun h1 => by simp at h1; omega)
  have HT := Lib.hid (h.put_stack hch hi3 hat)
  obtain ⟨_, _, _, m3, fz⟩ := h.cells
  obtain ⟨t, cur, h0, hcur⟩ := h.blk
  have h01 := (hch.block g hlt h.n2).trans h0
  have h00 := (b2.block g hlt).trans h0
  have m3' := (blk_cell h00 (off + 3)).trans ((blk_cell h0 (off + 3)).symm.trans m3)
  have c3 := (blk_cell h01 (off + 3)).trans ((blk_cell h0 (off + 3)).symm.trans m3)
  have z3 := blk_free h01 (off + 3)
  clear h hb i2' hi3 hch hat fz hG hc2 hsrc rN b2 hi hz0 hsz hbb hlt h0 h00 h01 hcur
  go_enter Tryz.func99, Tryz.ntmps99
  go_wp2_with (first | (at_builtin; refine wpList_append_run _ rfl _ _ _ _ rfl _ _ _ _ rfl rfl hrun ?_) | fail)
  go_end0
  exact ⟨_, rfl, HT.out⟩
end Go.Proofs.YtpfgklkdldkajaaGreatDoor
