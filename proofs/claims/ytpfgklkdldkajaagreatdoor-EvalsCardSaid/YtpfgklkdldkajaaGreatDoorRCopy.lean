/- The document's 'CopyFrame' and 'Copy': another one, of the call's own. Conditions: it lies in memory; no list is longer than the reach. -/
import Derived.Test.YtpfgklkdldkajaaGreatDoorROnce
namespace Go.Proofs.YtpfgklkdldkajaaGreatDoor
open Go.RowKit

/-- A call that answers a frame of its own. -/
def CopyFE (f : Frm) (w : World) (e : Ending) (w' : World) : Prop :=
  ∃ al lc asl sc, e = .returned (.agg #[.int .i64 f.fn, .int .i64 f.pc, .slice al f.locals.length lc, .slice asl f.stack.length sc]) ∧ InnAt w' w.heap.size (.slice al f.locals.length lc) (innI f.locals) ∧ InnAt w' w.heap.size (.slice asl f.stack.length sc) (innI f.stack) ∧
    (∀ b, ob (.slice al f.locals.length lc) = some b → ob (.slice asl f.stack.length sc) ≠ some b) ∧ Below w.heap.size w w'
set_option maxRecDepth 100000 in
set_option maxHeartbeats 4000000 in
theorem rcopyFrame_any (f : Frm) (L1 L2 : Option Addr) (cl cs : Nat) (wr : World) (rl : ReadsI wr L1 f.locals) (rs : ReadsI wr L2 f.stack) (zl : f.locals.length * 8 ≤ 140737488351232) (zs : f.stack.length * 8 ≤ 140737488351232) :
    Calls Tryz.prog 100 #[.agg #[.int .i64 f.fn, .int .i64 f.pc, .slice L1 f.locals.length cl, .slice L2 f.stack.length cs]] wr (CopyFE f wr) := by
  obtain ⟨w1, hw1⟩ : ∃ w1, wr.alloc (.cells #[.int .i64 f.fn, .int .i64 f.pc, .slice L1 f.locals.length cl, .slice L2 f.stack.length cs] 68) = w1 := ⟨_, rfl⟩
  obtain ⟨wA, hwA⟩ : ∃ wA, w1.alloc (.cells #[.int .i64 0, .int .i64 0, .slice none 0 0, .slice none 0 0] 68) = wA := ⟨_, rfl⟩
  have b1 : Below wr.heap.size wr w1 := hw1 ▸ below_alloc (Below.refl _ _) _
  have b2 : Below w1.heap.size w1 wA := hwA ▸ below_alloc (Below.refl _ _) _
  have bA := below_trans b1 b2
  have y1 : w1.heap.size = wr.heap.size + 1 := by rw [← hw1]; simp
  have yA : wA.heap.size = wr.heap.size + 2 := by rw [← hwA]; simp [y1]
  have rA : RowAt 68 wr.heap.size [.int .i64 f.fn, .int .i64 f.pc, .slice L1 f.locals.length cl, .slice L2 f.stack.length cs] wA := (hw1 ▸ RowAt.new _ _ wr : RowAt 68 wr.heap.size _ w1).below b2
  have zA : RowAt 68 w1.heap.size [.int .i64 0, .int .i64 0, .slice none 0 0, .slice none 0 0] wA := hwA ▸ RowAt.new _ _ w1
  obtain ⟨al, lc, wC, hrunC, hcC, hbC⟩ := append_copy (c := cl) (rl.below bA) zl
  obtain ⟨wD, hwD⟩ : ∃ wD, wC.setCell ⟨wr.heap.size, 2, none⟩ (.slice al f.locals.length lc) = wD := ⟨_, rfl⟩
  have rC := rA.below hbC
  have zC := zA.below hbC
  have rD : RowAt 68 wr.heap.size [.int .i64 f.fn, .int .i64 f.pc, .slice al f.locals.length lc, .slice L2 f.stack.length cs] wD := hwD ▸ rC.put 2 (.slice al f.locals.length lc)
  have bD : Below wr.heap.size wr wD := hwD ▸ (below_trans bA hbC).setCell (p := ⟨wr.heap.size, 2, none⟩) (Nat.le_refl _) _
  have yD : wC.heap.size = wD.heap.size := by rw [← hwD]; simp
  have kD : Chg (fun b => b = wr.heap.size) wC wD := hwD ▸ Chg.put (S := fun b => b = wr.heap.size) (Chg.refl _ wC) (a := ⟨wr.heap.size, 2, none⟩) rfl _
  have zD := zC.chg kD (by omega)
  obtain ⟨asl, sc, wE, hrunE, hcE, hbE⟩ := append_copy (c := cs) (rs.below bD) zs
  obtain ⟨wF, hwF⟩ : ∃ wF, wE.setCell ⟨wr.heap.size, 3, none⟩ (.slice asl f.stack.length sc) = wF := ⟨_, rfl⟩
  have rE := rD.below hbE
  have rF : RowAt 68 wr.heap.size [.int .i64 f.fn, .int .i64 f.pc, .slice al f.locals.length lc, .slice asl f.stack.length sc] wF := hwF ▸ rE.put 3 (.slice asl f.stack.length sc)
  have bF : Below wr.heap.size wr wF := hwF ▸ (below_trans bD hbE).setCell (p := ⟨wr.heap.size, 3, none⟩) (Nat.le_refl _) _
  have kF : Chg (fun b => b = wr.heap.size) wE wF := hwF ▸ Chg.put (S := fun b => b = wr.heap.size) (Chg.refl _ wE) (a := ⟨wr.heap.size, 3, none⟩) rfl _
  have zF := (zD.below hbE).chg kF (by omega)
  have d2' := rA.cell (k := 2) (by simp)
  have fC := rC.free 2
  have gC := rC.cell (k := 2) (by simp)
  have gD := rD.cell (k := 3) (by simp)
  have fE := rE.free 3
  have gE := rE.cell (k := 3) (by simp)
  have dA2 := cell_below (below_alloc (Below.refl _ _) (.cells #[] 3)) d2'
  have dD3 := cell_below (below_alloc (Below.refl _ _) (.cells #[] 3)) gD
  simp only [List.getElem_cons_zero, List.getElem_cons_succ] at d2' gC gD gE dA2 dD3
  have pz := (put4 zF rfl (.int .i64 f.fn) (.int .i64 f.pc) (.slice al f.locals.length lc) (.slice asl f.stack.length sc))
  have kZ := pz.2
  have EE := Lib.hid pz.1
  have kCF : Chg (fun b => b = wr.heap.size ∨ b = w1.heap.size) wC wF := ((kD.after hbE).trans kF (fun _ _ h => h)).mono (fun _ h => .inl h)
  have kEF : Chg (fun b => b = wr.heap.size ∨ b = w1.heap.size) wE wF := kF.mono (fun _ h => .inl h)
  have kC := kCF.trans (kZ.mono (fun _ h => Or.inr h)) (fun _ _ h => h)
  have kE := kEF.trans (kZ.mono (fun _ h => Or.inr h)) (fun _ _ h => h)
  have HL := Lib.hid ((hcC.chg kC (fun b hb e => by have := (hcC.in_ b hb).1; omega)).mono (show wr.heap.size ≤ _ by omega))
  have HS := Lib.hid ((hcE.chg kE (fun b hb e => by have := (hcE.in_ b hb).1; have := hbC.size; omega)).mono (show wr.heap.size ≤ _ by have := hbC.size; omega))
  have HD := Lib.hid (show ∀ b, ob (.slice al f.locals.length lc) = some b → ob (.slice asl f.stack.length sc) ≠ some b from fun b h1 h2 => by
    have := (hcC.in_ b h1).2; have := (hcE.in_ b h2).1; omega)
  have HB := Lib.hid (Chg.below bF kZ (fun b e => by omega))
  have HRE := Lib.hid hrunE
  have RF := Lib.hid rF
  have ZF := Lib.hid zF
  clear b1 b2 bA y1 yA rA zA hcC hbC rC zC rD bD yD kD zD hcE hbE rE rF bF kF zF pz kZ kCF kEF kC kE rl rs hrunE
  go_enter Tryz.func100, Tryz.ntmps100
  go_upto_region 2 with (at_builtin; refine wpList_append_run _ rfl _ _ _ _ rfl _ _ _ _ rfl rfl hrunC ?_)
  have hrunE := HRE.out
  go_upto_region 3 with (at_builtin; refine wpList_append_run _ rfl _ _ _ _ rfl _ _ _ _ rfl rfl hrunE ?_)
  have gF0 := RF.out.cell (k := 0) (by simp)
  have gF1 := RF.out.cell (k := 1) (by simp)
  have gF2 := RF.out.cell (k := 2) (by simp)
  have gF3 := RF.out.cell (k := 3) (by simp)
  have n0 := ZF.out.free 0
  have n1 := ZF.out.free 1
  have n2 := ZF.out.free 2
  have n3 := ZF.out.free 3
  have m0 := ZF.out.cell (k := 0) (by simp)
  have m1 := ZF.out.cell (k := 1) (by simp)
  have m2 := ZF.out.cell (k := 2) (by simp)
  have m3 := ZF.out.cell (k := 3) (by simp)
  simp only [List.getElem_cons_zero, List.getElem_cons_succ] at gF0 gF1 gF2 gF3 m0 m1 m2 m3
  clear hrunC hrunE d2' fC gC gD fE gE dA2 dD3
  go_wp2_with fail
  exact bodyPost_ret (v := .agg #[.int .i64 f.fn, .int .i64 f.pc, .slice al f.locals.length lc, .slice asl f.stack.length sc]) (by simp [results, Tryz.results100, go_sem, EE.out.1, EE.out.2.1, EE.out.2.2.1, EE.out.2.2.2]) rfl ⟨al, lc, asl, sc, rfl, HL.out, HS.out, HD.out, HB.out⟩
end Go.Proofs.YtpfgklkdldkajaaGreatDoor
