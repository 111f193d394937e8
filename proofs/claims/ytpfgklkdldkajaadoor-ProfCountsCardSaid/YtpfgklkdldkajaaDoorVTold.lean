/- verify's errors: what 'told' makes of them. Condition: the variable errors.errorType holds the handle of 'error'. -/
import Derived.Test.YtpfgklkdldkajaaDoorFault
namespace Go.Proofs.YtpfgklkdldkajaaDoor
open Go.RowKit

theorem set_far (w : World) (p a : Addr) (v : Value) (h : p.block ≠ a.block) : (w.setCell p v).cell? a = w.cell? a := World.cell?_setCell_other w p a v (fun e => h (by rw [e]))
theorem as_nil (x : Value) (w : World) : Calls Tryd.prog 71 #[.nilIface, x] w fun e w' => e = .returned (.bool false) ∧ w' = w := by
  go_enter Tryd.func71, Tryd.ntmps71
  go_wp2
  go_ret
  exact ⟨rfl, rfl⟩
/-- errors.errorType holds the handle of 'error'. -/
def Laid (w : World) : Prop := w.cell? ⟨0, 0, none⟩ = some (.iface 198 (.agg #[.pointer (some ⟨1, 88, none⟩)]))
theorem Laid.lt {w : World} (h : Laid w) : 0 < w.heap.size := World.block_lt_of_cell? w _ h
theorem Laid.below {w w1 : World} (h : Laid w) (hb : Below w.heap.size w w1) : Laid w1 := (hb.cell (p := ⟨0, 0, none⟩) h.lt).trans h
/-- An error as 'verify' makes it: none, or a fault. -/
def Err (w : World) (v : Value) (pc e : Int) : Prop := (v = .nilIface ∧ pc = 0 ∧ e = 0) ∨ ∃ m : Addr, v = .iface 124 (.pointer (some m)) ∧ w.cell? m = some (.int .i64 pc) ∧ w.cell? ⟨m.block, m.off + 1, none⟩ = some (.iface 33 (.int .i64 e))
theorem Err.below {w w1 : World} {v : Value} {pc e : Int} (h : Err w v pc e) (hb : Below w.heap.size w w1) : Err w1 v pc e := by
  rcases h with h | ⟨m, h1, h2, h3⟩
  · exact .inl h
  · exact .inr ⟨m, h1, (hb.cell (World.block_lt_of_cell? w _ h2)).trans h2, (hb.cell (p := ⟨m.block, m.off + 1, none⟩) (World.block_lt_of_cell? w ⟨m.block, m.off + 1, none⟩ h3)).trans h3⟩
theorem told_any (v : Value) (pc n : Int) (w : World) (hg : Laid w) (h : Err w v pc n) :
    Calls Tryd.prog 41 #[v] w fun e w' => e = .returned (.tuple #[.int .i64 pc, .int .i64 n]) ∧ Below w.heap.size w w' := by
  have b1 : Below w.heap.size w (w.alloc (.cells #[.pointer none] 124)) := below_alloc (Below.refl _ _) _
  have b2 := below_alloc b1 (.cells #[.int .i64 0] 33)
  rcases h with ⟨rfl, rfl, rfl⟩ | ⟨m, rfl, h2, h3⟩
  · have HB := Lib.hid b2
    clear b1 b2
    go_enter Tryd.func41, Tryd.ntmps41
    go_wp2_with (go_at_call 71; refine (as_nil _ _).mono ?_; rintro e w' ⟨rfl, rfl⟩)
    go_ret2
    exact ⟨rfl, HB.out⟩
  · have hm := World.block_lt_of_cell? w _ h2
    have HG := Lib.hid hg
    have A1 := Lib.hid (as_first m ⟨w.heap.size, 0, none⟩ (.pointer none) ((w.alloc (.cells #[.pointer none] 124)).alloc (.cells #[.int .i64 0] 33)) (hg.below b2) (Lib.cell?_alloc_some _ ((blk_cell (blk_new w _) 0).trans rfl)) (by simp))
    have HM := Lib.hid h3
    have HP := Lib.hid h2
    have B2 := Lib.hid b2
    clear hg h2 h3 b1 b2
    go_enter Tryd.func41, Tryd.ntmps41
    go_wp2_with fail
    refine A1.out.mono ?_
    rintro e w' ⟨rfl, w1, hB, hc, rfl⟩
    have B3 := below_trans B2.out hB
    have k1 := Below.setCell B3 (p := ⟨w.heap.size, 0, none⟩) (by simp) (.pointer (some m))
    have e0 : (w1.setCell ⟨w.heap.size, 0, none⟩ (.pointer (some m))).cell? ⟨w.heap.size + 1, 0, none⟩ = some (.int .i64 0) := by
      rw [set_far _ _ _ _ (by simp)]
      rw [hB.cell (p := ⟨w.heap.size + 1, 0, none⟩) (by simp)]
      simp
    have f0 : (w1.setCell ⟨w.heap.size, 0, none⟩ (.pointer (some m))).frozen? ⟨w.heap.size + 1, 0, none⟩ = false := by
      rw [World.frozen?_setCell]
      rw [hB.frozen (p := ⟨w.heap.size + 1, 0, none⟩) (by simp)]
      simp
    have c0 : (w1.setCell ⟨w.heap.size, 0, none⟩ (.pointer (some m))).cell? ⟨w.heap.size, 0, none⟩ = some (.pointer (some m)) := World.cell?_setCell_same (h := hc) ..
    have hmw : w1.cell? ⟨m.block, m.off + 1, none⟩ = some (.iface 33 (.int .i64 n)) := by
      have h := (B2.out.cell (p := ⟨m.block, m.off + 1, none⟩) hm).trans HM.out
      rw [hB.cell (p := ⟨m.block, m.off + 1, none⟩) (by simp; omega)]; exact h
    have hm2 : (w1.setCell ⟨w.heap.size, 0, none⟩ (.pointer (some m))).cell? ⟨m.block, m.off + 1, none⟩ = some (.iface 33 (.int .i64 n)) := by
      rw [set_far _ _ _ _ (by simp; omega)]; exact hmw
    have hl1 : Laid (w1.setCell ⟨w.heap.size, 0, none⟩ (.pointer (some m))) := (HG.out.below k1)
    have A2 := Lib.hid (as_chain m ⟨w.heap.size + 1, 0, none⟩ n (.int .i64 0) _ hl1 hm2 e0 f0)
    have HP1 := Lib.hid ((k1.cell hm).trans HP.out)
    have K1 := Lib.hid k1
    have C0 := Lib.hid c0
    have hz : w.heap.size + 1 < w1.heap.size := by have := hB.size; simp at this; omega
    clear e0 f0 c0 k1 hB hc hmw hm2 hl1 B3
    go_wp2_with fail
    refine A2.out.mono ?_
    rintro e w' ⟨rfl, w2, hB2, hc2, rfl⟩
    have b3 := below_trans K1.out hB2
    have p0 : (w2.setCell ⟨w.heap.size + 1, 0, none⟩ (.int .i64 n)).cell? ⟨w.heap.size, 0, none⟩ = some (.pointer (some m)) := by
      rw [set_far _ _ _ _ (by simp), hB2.cell (p := ⟨w.heap.size, 0, none⟩) (by simp; omega)]; exact C0.out
    have p1 : (w2.setCell ⟨w.heap.size + 1, 0, none⟩ (.int .i64 n)).cell? ⟨w.heap.size + 1, 0, none⟩ = some (.int .i64 n) := World.cell?_setCell_same (h := hc2) ..
    have p2 : (w2.setCell ⟨w.heap.size + 1, 0, none⟩ (.int .i64 n)).cell? m = some (.int .i64 pc) := by
      rw [set_far _ _ _ _ (by simp; omega)]; exact (b3.cell hm).trans HP.out
    have B5 := Lib.hid (Below.setCell b3 (p := ⟨w.heap.size + 1, 0, none⟩) (by simp) (.int .i64 n))
    clear b3 hB2 hc2
    go_wp2_with fail
    go_quiet (fail)
    go_wp2_with fail
    go_ret2
    exact ⟨rfl, below_drew B5.out _⟩
end Go.Proofs.YtpfgklkdldkajaaDoor
