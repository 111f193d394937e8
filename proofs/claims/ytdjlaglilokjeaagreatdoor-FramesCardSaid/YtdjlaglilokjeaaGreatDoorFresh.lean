/- The document's 'Fresh', 'Start'. Conditions: the program, the args lie in memory; the args are no more than the locals. -/
import Derived.Test.YtdjlaglilokjeaaGreatDoorRefMay
namespace Go.Proofs.YtdjlaglilokjeaaGreatDoor
open Go.RowKit

theorem beginL_step {args : List Int} {L k : Nat} (hk : k < args.length) (hL : args.length ≤ L) : beginL (args.take (k + 1)) L = (beginL (args.take k) L).set k args[k] := by
  unfold beginL
  rw [List.take_succ_eq_append_getElem hk]
  have e1 : (args.take k).length = k := by simp; omega
  rw [List.length_append, e1, List.set_append_right _ _ (by omega), e1, Nat.sub_self, show L - k = (L - (k + 1)) + 1 by omega, List.replicate_succ, List.set_cons_zero, List.append_assoc]
  rfl
theorem beginL_nil (args : List Int) (L : Nat) : beginL (args.take 0) L = List.replicate L 0 := by simp [beginL]
set_option maxRecDepth 100000 in
set_option maxHeartbeats 2000000 in
theorem fresh_any (p : List Fn) (Ap A : Option Addr) (cp c n L : Nat) (args : List Int) (w : World) (hr : ReadsF w Ap p) (hn : n < p.length) (hL : p[n].locals = L) (h8 : L ≤ 100) (ha : ReadsI w A args) (hle : args.length ≤ L) :
    Calls Tryz.prog 26 #[.agg #[.slice Ap p.length cp], .int .i64 n, .slice A args.length c] w (BeginE n args L w) := by
  obtain ⟨w1, hw1⟩ : ∃ w1, w.alloc (.cells #[.slice Ap p.length cp] 24) = w1 := ⟨_, rfl⟩
  obtain ⟨w2, hw2⟩ : ∃ w2, w1.alloc (.cells #[.int .i64 0, .int .i64 0, .slice none 0 0, .slice none 0 0] 27) = w2 := ⟨_, rfl⟩
  have b1 : Below w.heap.size w w1 := hw1 ▸ below_alloc (Below.refl _ _) _
  have b2 : Below w1.heap.size w1 w2 := hw2 ▸ below_alloc (Below.refl _ _) _
  have z1 : w1.heap.size = w.heap.size + 1 := by rw [← hw1]; simp
  have z2 : w2.heap.size = w.heap.size + 2 := by rw [← hw2]; simp [z1]
  have b02 := below_trans b1 b2
  have p2 : w2.cell? ⟨w.heap.size, 0, none⟩ = some (.slice Ap p.length cp) := cell_below b2 (hw1 ▸ (blk_cell (blk_new w _) 0).trans rfl)
  have r2 : RowAt 27 w1.heap.size [.int .i64 0, .int .i64 0, .slice none 0 0, .slice none 0 0] w2 := hw2 ▸ RowAt.new _ _ w1
  obtain ⟨ad, rfl, Ac, cc, hF⟩ := fnAt_of hr b02 hn
  have k1 := hF.c1
  rw [hL] at k1
  have hmk := make_ints L h8 w2
  obtain ⟨w3, hw3⟩ : ∃ w3, w2.alloc (.cells (intsV (List.replicate L 0)).toArray 3) = w3 := ⟨_, rfl⟩
  have b3 : Below w2.heap.size w2 w3 := hw3 ▸ below_alloc (Below.refl _ _) _
  have r3 : RowAt 3 w2.heap.size (intsV (List.replicate L 0)) w3 := hw3 ▸ RowAt.new _ _ w2
  rw [hw3] at hmk
  have B3 := Lib.hid (below_trans b02 b3)
  have R3 := Lib.hid (show RowAt 3 w2.heap.size (intsV (beginL (args.take 0) L)) w3 by rw [beginL_nil]; exact r3)
  have R2 := Lib.hid (r2.below b3)
  have RA := Lib.hid ha
  have Z1 := Lib.hid z1
  have Z2 := Lib.hid z2
  have hpn := hr.1
  have hna := ha.1
  clear b1 b2 b3 b02 r2 r3 z1 z2 hr hF ha hL hw3
  go_enter Tryz.func26, Tryz.ntmps26
  go_wp2_with fail
  clear hmk hw1 hw2 k1 p2
  go_loopw [8] (fun i wr => ∃ k : Nat, k ≤ args.length ∧ i = .int .i64 k ∧ RowAt 3 w2.heap.size (intsV (beginL (args.take k) L)) wr ∧ RowAt 27 w1.heap.size [.int .i64 0, .int .i64 0, .slice none 0 0, .slice none 0 0] wr ∧ Keeps w2.heap.size w3 wr) (fun i _ => args.length - (intOf i).toNat)
  case atStart => exact ⟨0, Nat.zero_le _, rfl, R3.out, R2.out, Keeps.refl _ _⟩
  case round =>
    obtain ⟨k, hk, rfl, hrow, hfr, hkp⟩ := hrel
    by_cases hlt : k < args.length
    · have hkL : k < L := by omega
      have d1 : decide (k < args.length) = true := by simpa using hlt
      have d2 : decide (k < L) = true := by simpa using hkL
      have hlen : (beginL (args.take k) L).length = L := beginL_len (by simp; omega)
      obtain ⟨a2, eA, ca⟩ := RA.out.at_ hlt
      subst eA
      have hc0 := cell_below (below_keep B3.out hkp (by have := Z2.out; omega)) ca
      have hkb : k < (beginL (args.take k) L).length := by omega
      have c1 := ints_cell hrow (k := k) hkb
      obtain ⟨x, hx⟩ : ∃ x, (beginL (args.take k) L)[k] = x := ⟨_, rfl⟩
      rw [hx] at c1
      have f1 := hrow.free k
      have s1 := ints_put hrow k args[k]
      rw [← beginL_step hlt hle] at s1
      have S1 := Lib.hid s1
      have K1 := Lib.hid (hkp.put k (.int .i64 args[k]))
      have F1 := Lib.hid (hfr.keeps (show Keeps w2.heap.size wr (wr.setCell ⟨w2.heap.size, k, none⟩ (.int .i64 args[k])) from Keeps.put (Keeps.refl _ _) _ _) (by have := Z1.out; have := Z2.out; omega))
      clear s1 hrow hfr hkp ca hx hkb hlen
      go_wp2_with fail
      go_roundw
      case rel => exact ⟨k + 1, by omega, by go_num, S1.out, F1.out, K1.out⟩
      case measure => simp only [intOf]; omega
    · have hke : args.take k = args := List.take_of_length_le (by omega)
      rw [hke] at hrow
      have f0 := hfr.free 0
      have f1 := hfr.free 1
      have f2 := hfr.free 2
      have f3 := hfr.free 3
      have g0 := hfr.cell (k := 0) (by simp)
      have g1 := hfr.cell (k := 1) (by simp)
      have g2 := hfr.cell (k := 2) (by simp)
      have g3 := hfr.cell (k := 3) (by simp)
      simp only [List.getElem_cons_succ, List.getElem_cons_zero] at g0 g1 g2 g3
      have s1 := hfr.put 0 (.int .i64 n)
      have s2 := s1.put 1 (.int .i64 0)
      have s3 := s2.put 2 (.slice (some ⟨w2.heap.size, 0, none⟩) L L)
      have s4 := s3.put 3 (.slice none 0 0)
      have e0 := s1.cell (k := 0) (by simp)
      have e1 := s2.cell (k := 1) (by simp)
      have e2 := s3.cell (k := 2) (by simp)
      have e3 := s4.cell (k := 3) (by simp)
      simp only [List.set_cons_zero, List.set_cons_succ, List.getElem_cons_succ, List.getElem_cons_zero] at e0 e1 e2 e3
      have hz1 := Z1.out
      have hz2 := Z2.out
      have kb : ∀ (W : World) (k : Nat) (u : Value), Below w.heap.size w W → Below w.heap.size w (W.setCell ⟨w1.heap.size, k, none⟩ u) := fun W k u hb => hb.setCell (p := ⟨w1.heap.size, k, none⟩) (by simp; omega) u
      have br := below_keep B3.out hkp (by omega)
      have b4 := kb _ 3 (.slice none 0 0) (kb _ 2 (.slice (some ⟨w2.heap.size, 0, none⟩) L L) (kb _ 1 (.int .i64 0) (kb _ 0 (.int .i64 n) br)))
      have kr : ∀ (W : World) (k : Nat) (u : Value), RowAt 3 w2.heap.size (intsV (beginL args L)) W → RowAt 3 w2.heap.size (intsV (beginL args L)) (W.setCell ⟨w1.heap.size, k, none⟩ u) := fun W k u h => h.keeps (g := w1.heap.size) (Keeps.put (Keeps.refl _ _) k u) (by omega)
      have r4 := kr _ 3 (.slice none 0 0) (kr _ 2 (.slice (some ⟨w2.heap.size, 0, none⟩) L L) (kr _ 1 (.int .i64 0) (kr _ 0 (.int .i64 n) hrow)))
      have B4 := Lib.hid b4
      have R4 := Lib.hid r4
      have E0 := Lib.hid e0
      have E1 := Lib.hid e1
      have E2 := Lib.hid e2
      have E3 := Lib.hid e3
      have d1 : decide (k < args.length) = false := by simp; omega
      clear s1 s2 s3 s4 e0 e1 e2 e3 kb b4 kr r4 br hz1 hz2 hrow hfr hkp
      go_wp2_with fail
      exact bodyPost_ret (v := .agg #[.int .i64 n, .int .i64 0, .slice (some ⟨w2.heap.size, 0, none⟩) L L, .slice none 0 0]) (by simp [results, Tryz.results26, go_sem, E0.out, E1.out, E2.out, E3.out]) rfl ⟨w2.heap.size, rfl, R4.out, by have := Z2.out; omega, B4.out⟩
end Go.Proofs.YtdjlaglilokjeaaGreatDoor
