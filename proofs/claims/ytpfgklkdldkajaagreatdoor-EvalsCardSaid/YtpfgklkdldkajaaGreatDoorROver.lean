/- The document's 'over': a state that is over. No condition. -/
import Derived.Test.YtpfgklkdldkajaaGreatDoorGZ24
namespace Go.Proofs.YtpfgklkdldkajaaGreatDoor
open Go.RowKit

set_option maxRecDepth 100000 in
set_option maxHeartbeats 4000000 in
theorem rover_any (A Ao : Option Addr) (n m c co : Nat) (fu dn va d v : Int) (w : World) :
    Calls Tryz.prog 96 #[.agg #[.slice A n c, .int .i64 fu, .slice Ao m co, .int .i64 dn, .int .i64 va], .int .i64 d, .int .i64 v] w fun e w' => e = .returned (.agg #[.slice none 0 0, .int .i64 fu, .slice Ao m co, .int .i64 d, .int .i64 v]) ∧ Below w.heap.size w w' := by
  obtain ⟨w1, hw1⟩ : ∃ w1, w.alloc (.cells #[.slice A n c, .int .i64 fu, .slice Ao m co, .int .i64 dn, .int .i64 va] 47) = w1 := ⟨_, rfl⟩
  have b1 : Below w.heap.size w w1 := hw1 ▸ below_alloc (Below.refl _ _) _
  have b2 : Below w1.heap.size w1 (w1.alloc (.cells #[.slice none 0 0, .int .i64 0, .slice none 0 0, .int .i64 0, .int .i64 0] 47)) := below_alloc (Below.refl _ _) _
  have y1 : w1.heap.size = w.heap.size + 1 := by rw [← hw1]; simp
  have r1 : RowAt 47 w.heap.size [.slice A n c, .int .i64 fu, .slice Ao m co, .int .i64 dn, .int .i64 va] (w1.alloc (.cells #[.slice none 0 0, .int .i64 0, .slice none 0 0, .int .i64 0, .int .i64 0] 47)) := (hw1 ▸ RowAt.new _ _ w : RowAt 47 w.heap.size _ w1).below b2
  have r2 : RowAt 47 w1.heap.size [.slice none 0 0, .int .i64 0, .slice none 0 0, .int .i64 0, .int .i64 0] (w1.alloc (.cells #[.slice none 0 0, .int .i64 0, .slice none 0 0, .int .i64 0, .int .i64 0] 47)) := RowAt.new _ _ w1
  have B2 := Lib.hid (below_trans b1 b2)
  have R1 := Lib.hid r1
  have R2 := Lib.hid r2
  have Y := Lib.hid y1
  clear b1 b2 y1 r1 r2
  go_enter Tryz.func96, Tryz.ntmps96
  go_upto_region 1 with fail
  generalize hw2 : (w1.alloc (.cells #[.slice none 0 0, .int .i64 0, .slice none 0 0, .int .i64 0, .int .i64 0] 47)) = w2 at *
  clear hw1 hw2
  have s1 := R1.out.put 0 (.slice none 0 0)
  have s2 := s1.put 3 (.int .i64 d)
  have s3 := s2.put 4 (.int .i64 v)
  simp only [List.set_cons_zero, List.set_cons_succ] at s1 s2 s3
  have c0 := R1.out.cell (k := 0) (by simp)
  have z0 := R1.out.free 0
  have c3 := s1.cell (k := 3) (by simp)
  have z3 := s1.free 3
  have c4 := s2.cell (k := 4) (by simp)
  have z4 := s2.free 4
  simp only [List.getElem_cons_zero, List.getElem_cons_succ] at c0 c3 c4
  have kc : Chg (fun b => b = w.heap.size) w2 (((w2.setCell ⟨w.heap.size, 0, none⟩ (.slice none 0 0)).setCell ⟨w.heap.size, 3, none⟩ (.int .i64 d)).setCell ⟨w.heap.size, 4, none⟩ (.int .i64 v)) := (((Chg.refl (fun b => b = w.heap.size) w2).put (a := ⟨w.heap.size, 0, none⟩) rfl _).put (a := ⟨w.heap.size, 3, none⟩) rfl _).put (a := ⟨w.heap.size, 4, none⟩) rfl _
  have S3 := Lib.hid s3
  have Q3 := Lib.hid (R2.out.chg kc (by have := Y.out; omega))
  have B3 := Lib.hid (Chg.below B2.out kc (fun b e => by omega))
  clear s1 s2 s3 kc
  go_upto_region 4 with fail
  generalize hw3 : (((w2.setCell ⟨w.heap.size, 0, none⟩ (.slice none 0 0)).setCell ⟨w.heap.size, 3, none⟩ (.int .i64 d)).setCell ⟨w.heap.size, 4, none⟩ (.int .i64 v)) = w3 at *
  clear hw3 c0 c3 c4 z0 z3 z4
  have k0 := S3.out.cell (k := 0) (by simp)
  have k1 := S3.out.cell (k := 1) (by simp)
  have k2 := S3.out.cell (k := 2) (by simp)
  have k3 := S3.out.cell (k := 3) (by simp)
  have k4 := S3.out.cell (k := 4) (by simp)
  simp only [List.getElem_cons_zero, List.getElem_cons_succ] at k0 k1 k2 k3 k4
  have n0 := Q3.out.free 0
  have n1 := Q3.out.free 1
  have n2 := Q3.out.free 2
  have n3 := Q3.out.free 3
  have n4 := Q3.out.free 4
  obtain ⟨m0, m1, m2, m3, m4⟩ : w3.cell? ⟨w1.heap.size, 0, none⟩ = some (.slice none 0 0) ∧ w3.cell? ⟨w1.heap.size, 1, none⟩ = some (.int .i64 0) ∧ w3.cell? ⟨w1.heap.size, 2, none⟩ = some (.slice none 0 0) ∧ w3.cell? ⟨w1.heap.size, 3, none⟩ = some (.int .i64 0) ∧ w3.cell? ⟨w1.heap.size, 4, none⟩ = some (.int .i64 0) := ⟨Q3.out.cell (k := 0) (by simp), Q3.out.cell (k := 1) (by simp), Q3.out.cell (k := 2) (by simp), Q3.out.cell (k := 3) (by simp), Q3.out.cell (k := 4) (by simp)⟩
  have pz := put5s Q3.out rfl (.slice none 0 0) (.int .i64 fu) (.slice Ao m co) (.int .i64 d) (.int .i64 v)
  have EE := Lib.hid pz.1
  have FB := Lib.hid (Chg.below B3.out pz.2 (fun b e => by have := Y.out; omega))
  clear pz
  go_wp2_with fail
  exact bodyPost_ret (v := .agg #[.slice none 0 0, .int .i64 fu, .slice Ao m co, .int .i64 d, .int .i64 v]) (by simp [results, Tryz.results96, go_sem, EE.out.1, EE.out.2.1, EE.out.2.2.1, EE.out.2.2.2.1, EE.out.2.2.2.2]) rfl ⟨rfl, FB.out⟩
end Go.Proofs.YtpfgklkdldkajaaGreatDoor
