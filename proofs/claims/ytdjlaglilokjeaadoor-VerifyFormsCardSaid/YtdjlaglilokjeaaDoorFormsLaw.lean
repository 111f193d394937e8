/- The law VerifyForms, walked: functions that are not verified, the error, the pc. Condition: errors.errorType is laid. -/
import Derived.Test.YtdjlaglilokjeaaDoorHeightsLaw
namespace Go.Proofs.YtdjlaglilokjeaaDoor
open Go.RowKit

def formsC : List (List Ins) := [[⟨0, 1⟩, ⟨1, 2⟩, ⟨16, 0⟩], [⟨0, 1⟩, ⟨2, 3⟩, ⟨16, 0⟩], [⟨12, 5⟩], [⟨0, 1⟩, ⟨13, 4⟩, ⟨0, 1⟩, ⟨16, 0⟩], [⟨0, 1⟩, ⟨14, 2⟩, ⟨16, 0⟩], [⟨0, 1⟩], [⟨0, 1⟩, ⟨13, 0⟩], [⟨16, 0⟩], [⟨0, 1⟩, ⟨3, 0⟩, ⟨16, 0⟩], [⟨10, 0⟩, ⟨16, 0⟩], [⟨15, 0⟩, ⟨0, 1⟩, ⟨16, 0⟩], [⟨0, 1⟩, ⟨14, 1⟩, ⟨16, 0⟩], [⟨0, 1⟩, ⟨0, 1⟩, ⟨0, 1⟩, ⟨0, 1⟩, ⟨0, 1⟩, ⟨0, 1⟩, ⟨0, 1⟩, ⟨0, 1⟩, ⟨0, 1⟩, ⟨16, 0⟩], [⟨0, 1⟩, ⟨12, 0⟩], [⟨0, 1⟩, ⟨13, 3⟩, ⟨0, 1⟩, ⟨0, 1⟩, ⟨16, 0⟩, ⟨16, 0⟩], [⟨0, 1⟩, ⟨0, 1⟩, ⟨13, 0⟩, ⟨16, 0⟩]]
def formsW : List Int := [501, 501, 501, 501, 501, 503, 503, 502, 502, 502, 502, 502, 502, 502, 502, 502]
def formsP : List Int := [1, 1, 0, 1, 1, 0, 1, 0, 1, 0, 0, 1, 8, 1, 2, 2]
def formC (k : Nat) : List Ins := formsC.getD k []
def formW (k : Nat) : Int := formsW.getD k 0
def formP (k : Nat) : Int := formsP.getD k 0
def formPr (k : Nat) : List Fn := [⟨0, 2, formC k⟩, ⟨2, 2, [⟨0, 1⟩, ⟨16, 0⟩]⟩]
theorem form_all (k : Nat) (h : k < 16) : heightsOf (formPr k) 0 = ([], formP k, formW k) ∧ (heightsOf (formPr k) 1).2.2 = 0 ∧ verifyOf (formPr k) = formW k := by
  obtain rfl | rfl | rfl | rfl | rfl | rfl | rfl | rfl | rfl | rfl | rfl | rfl | rfl | rfl | rfl | rfl : k = 0 ∨ k = 1 ∨ k = 2 ∨ k = 3 ∨ k = 4 ∨ k = 5 ∨ k = 6 ∨ k = 7 ∨ k = 8 ∨ k = 9 ∨ k = 10 ∨ k = 11 ∨ k = 12 ∨ k = 13 ∨ k = 14 ∨ k = 15 := by omega
  all_goals exact ⟨by kernel_rfl, by kernel_rfl, by kernel_rfl⟩
def allocs (w : World) : List Obj → World
  | [] => w
  | o :: os => allocs (w.alloc o) os
theorem allocs_below : ∀ (os : List Obj) (w : World), Below w.heap.size w (allocs w os)
  | [], _ => Below.refl _ _
  | o :: os, _ => below_trans (below_alloc (Below.refl _ _) o) (allocs_below os _)
theorem allocs_get : ∀ (os : List Obj) (w : World) (i : Nat) (h : i < os.length), (allocs w os).heap[w.heap.size + i]? = some os[i]
  | [], _, _, h => absurd h (by simp)
  | o :: os, w, 0, _ => by
    rw [allocs, Nat.add_zero, (allocs_below os (w.alloc o)).block _ (by simp)]
    exact blk_new w o
  | o :: os, w, i + 1, h => by
    have := allocs_get os (w.alloc o) i (by simpa using h)
    rw [show (w.alloc o).heap.size = w.heap.size + 1 by simp] at this
    rw [allocs, show w.heap.size + (i + 1) = w.heap.size + 1 + i by omega, this]
    simp
theorem row_code {w : World} {b : Nat} {xs : List Ins} (h : RowAt 44 b (insV xs) w) (hl : xs.length ≤ 1000) : ReadsC w (some ⟨b, 0, none⟩) xs :=
  (ORow.code (base := 0) (ORow.of_row h (Nat.zero_le _) (insV_len xs) (by unfold maxLen; omega))).2
def formObjs (w1 : World) : List Obj := [.cells #[.int .i64 0, .int .i64 1] 44, .cells #[.int .i64 16, .int .i64 0] 44, .cells #[.int .i64 0, .int .i64 1, .int .i64 1, .int .i64 2, .int .i64 16, .int .i64 0] 44, .cells #[.int .i64 0, .int .i64 1, .int .i64 2, .int .i64 3, .int .i64 16, .int .i64 0] 44, .cells #[.int .i64 12, .int .i64 5] 44, .cells #[.int .i64 0, .int .i64 1, .int .i64 13, .int .i64 4, .int .i64 0, .int .i64 1, .int .i64 16, .int .i64 0] 44, .cells #[.int .i64 0, .int .i64 1, .int .i64 14, .int .i64 2, .int .i64 16, .int .i64 0] 44, .cells #[.int .i64 0, .int .i64 1] 44, .cells #[.int .i64 0, .int .i64 1, .int .i64 13, .int .i64 0] 44, .cells #[.int .i64 16, .int .i64 0] 44, .cells #[.int .i64 0, .int .i64 1, .int .i64 3, .int .i64 0, .int .i64 16, .int .i64 0] 44, .cells #[.int .i64 10, .int .i64 0, .int .i64 16, .int .i64 0] 44, .cells #[.int .i64 15, .int .i64 0, .int .i64 0, .int .i64 1, .int .i64 16, .int .i64 0] 44, .cells #[.int .i64 0, .int .i64 1, .int .i64 14, .int .i64 1, .int .i64 16, .int .i64 0] 44, .cells #[.int .i64 0, .int .i64 1, .int .i64 0, .int .i64 1, .int .i64 0, .int .i64 1, .int .i64 0, .int .i64 1, .int .i64 0, .int .i64 1, .int .i64 0, .int .i64 1, .int .i64 0, .int .i64 1, .int .i64 0, .int .i64 1, .int .i64 0, .int .i64 1, .int .i64 16, .int .i64 0] 44, .cells #[.int .i64 0, .int .i64 1, .int .i64 12, .int .i64 0] 44, .cells #[.int .i64 0, .int .i64 1, .int .i64 13, .int .i64 3, .int .i64 0, .int .i64 1, .int .i64 0, .int .i64 1, .int .i64 16, .int .i64 0, .int .i64 16, .int .i64 0] 44, .cells #[.int .i64 0, .int .i64 1, .int .i64 0, .int .i64 1, .int .i64 13, .int .i64 0, .int .i64 16, .int .i64 0] 44, .cells #[.slice (some ⟨w1.heap.size + 1 + 1, 0, none⟩) 3 3, .slice (some ⟨w1.heap.size + 1 + 1 + 1, 0, none⟩) 3 3, .slice (some ⟨w1.heap.size + 1 + 1 + 1 + 1, 0, none⟩) 1 1, .slice (some ⟨w1.heap.size + 1 + 1 + 1 + 1 + 1, 0, none⟩) 4 4, .slice (some ⟨w1.heap.size + 1 + 1 + 1 + 1 + 1 + 1, 0, none⟩) 3 3, .slice (some ⟨w1.heap.size + 1 + 1 + 1 + 1 + 1 + 1 + 1, 0, none⟩) 1 1, .slice (some ⟨w1.heap.size + 1 + 1 + 1 + 1 + 1 + 1 + 1 + 1, 0, none⟩) 2 2, .slice (some ⟨w1.heap.size + 1 + 1 + 1 + 1 + 1 + 1 + 1 + 1 + 1, 0, none⟩) 1 1, .slice (some ⟨w1.heap.size + 1 + 1 + 1 + 1 + 1 + 1 + 1 + 1 + 1 + 1, 0, none⟩) 3 3, .slice (some ⟨w1.heap.size + 1 + 1 + 1 + 1 + 1 + 1 + 1 + 1 + 1 + 1 + 1, 0, none⟩) 2 2, .slice (some ⟨w1.heap.size + 1 + 1 + 1 + 1 + 1 + 1 + 1 + 1 + 1 + 1 + 1 + 1, 0, none⟩) 3 3, .slice (some ⟨w1.heap.size + 1 + 1 + 1 + 1 + 1 + 1 + 1 + 1 + 1 + 1 + 1 + 1 + 1, 0, none⟩) 3 3, .slice (some ⟨w1.heap.size + 1 + 1 + 1 + 1 + 1 + 1 + 1 + 1 + 1 + 1 + 1 + 1 + 1 + 1, 0, none⟩) 10 10, .slice (some ⟨w1.heap.size + 1 + 1 + 1 + 1 + 1 + 1 + 1 + 1 + 1 + 1 + 1 + 1 + 1 + 1 + 1, 0, none⟩) 2 2, .slice (some ⟨w1.heap.size + 1 + 1 + 1 + 1 + 1 + 1 + 1 + 1 + 1 + 1 + 1 + 1 + 1 + 1 + 1 + 1, 0, none⟩) 6 6, .slice (some ⟨w1.heap.size + 1 + 1 + 1 + 1 + 1 + 1 + 1 + 1 + 1 + 1 + 1 + 1 + 1 + 1 + 1 + 1 + 1, 0, none⟩) 4 4] 40, .cells #[.int .i64 501, .int .i64 501, .int .i64 501, .int .i64 501, .int .i64 501, .int .i64 503, .int .i64 503, .int .i64 502, .int .i64 502, .int .i64 502, .int .i64 502, .int .i64 502, .int .i64 502, .int .i64 502, .int .i64 502, .int .i64 502] 3, .cells #[.int .i64 1, .int .i64 1, .int .i64 0, .int .i64 1, .int .i64 1, .int .i64 0, .int .i64 1, .int .i64 0, .int .i64 1, .int .i64 0, .int .i64 0, .int .i64 1, .int .i64 8, .int .i64 1, .int .i64 2, .int .i64 2] 3]
theorem form_code (w1 : World) (k : Nat) (h : k < 16) : ∃ b, (allocs w1 (formObjs w1)).cell? ⟨w1.heap.size + 18, k, none⟩ = some (.slice (some ⟨b, 0, none⟩) (formC k).length (formC k).length) ∧ ReadsC (allocs w1 (formObjs w1)) (some ⟨b, 0, none⟩) (formC k) := by
  refine ⟨w1.heap.size + (2 + k), ?_, ?_⟩
  · rw [blk_cell (allocs_get (formObjs w1) w1 18 (by simp [formObjs]))]
    obtain rfl | rfl | rfl | rfl | rfl | rfl | rfl | rfl | rfl | rfl | rfl | rfl | rfl | rfl | rfl | rfl : k = 0 ∨ k = 1 ∨ k = 2 ∨ k = 3 ∨ k = 4 ∨ k = 5 ∨ k = 6 ∨ k = 7 ∨ k = 8 ∨ k = 9 ∨ k = 10 ∨ k = 11 ∨ k = 12 ∨ k = 13 ∨ k = 14 ∨ k = 15 := by omega
    all_goals rfl
  · refine row_code ?_ ?_
    · have := allocs_get (formObjs w1) w1 (2 + k) (by simp [formObjs]; omega)
      unfold RowAt
      rw [this]
      obtain rfl | rfl | rfl | rfl | rfl | rfl | rfl | rfl | rfl | rfl | rfl | rfl | rfl | rfl | rfl | rfl : k = 0 ∨ k = 1 ∨ k = 2 ∨ k = 3 ∨ k = 4 ∨ k = 5 ∨ k = 6 ∨ k = 7 ∨ k = 8 ∨ k = 9 ∨ k = 10 ∨ k = 11 ∨ k = 12 ∨ k = 13 ∨ k = 14 ∨ k = 15 := by omega
      all_goals rfl
    · obtain rfl | rfl | rfl | rfl | rfl | rfl | rfl | rfl | rfl | rfl | rfl | rfl | rfl | rfl | rfl | rfl : k = 0 ∨ k = 1 ∨ k = 2 ∨ k = 3 ∨ k = 4 ∨ k = 5 ∨ k = 6 ∨ k = 7 ∨ k = 8 ∨ k = 9 ∨ k = 10 ∨ k = 11 ∨ k = 12 ∨ k = 13 ∨ k = 14 ∨ k = 15 := by omega
      all_goals decide
theorem form_int (w1 : World) (k i : Nat) (l : List Int) (h : k < l.length) (hi : i < (formObjs w1).length) (e : (formObjs w1)[i] = .cells (intsV l).toArray 3) : (allocs w1 (formObjs w1)).cell? ⟨w1.heap.size + i, k, none⟩ = some (.int .i64 (l.getD k 0)) := by
  have := allocs_get (formObjs w1) w1 i hi
  rw [e] at this
  rw [blk_cell (fr := (0, 0)) this]
  simp [intsV, List.getD, h]
theorem form_reads (k : Nat) (bC bF b L : Nat) (w : World) (hL : (formC k).length = L) (rC : w.heap[bC]? = some (.cells #[.int .i64 0, .int .i64 1, .int .i64 16, .int .i64 0] 44)) (rF : w.heap[bF]? = some (.cells #[.int .i64 0, .int .i64 2, .slice (some ⟨b, 0, none⟩) L L, .int .i64 2, .int .i64 2, .slice (some ⟨bC, 0, none⟩) 2 2] 42))
    (hr : ReadsC w (some ⟨b, 0, none⟩) (formC k)) : ReadsF w (some ⟨bF, 0, none⟩) (formPr k) := by
  subst hL
  have hc := fun j => blk_cell (fr := (0, 0)) rF j
  have h2 : ReadsC w (some ⟨bC, 0, none⟩) [⟨0, 1⟩, ⟨16, 0⟩] := row_code (xs := [⟨0, 1⟩, ⟨16, 0⟩]) rC (by simp)
  refine ⟨by simp [formPr], fun _ => ⟨_, rfl, fun i hi => ?_⟩⟩
  have hi2 : i < 2 := by simpa [formPr] using hi
  obtain rfl | rfl : i = 0 ∨ i = 1 := by omega
  · exact ⟨hc 0, hc 1, some ⟨b, 0, none⟩, (formC k).length, hc 2, hr⟩
  · exact ⟨hc 3, hc 4, some ⟨bC, 0, none⟩, 2, hc 5, h2⟩
theorem u64_rem16 (v : Int) : ∃ p : Nat, wrap64 ((IntKind.u64.wrap v).tmod 16) = p ∧ p < 16 := by
  have h0 : IntKind.u64.wrap v = v % 18446744073709551616 := by rw [IntKind.wrap_u64]
  have h2 : 0 ≤ v % 18446744073709551616 := by omega
  refine ⟨((v % 18446744073709551616) % 16).toNat, ?_, by omega⟩
  rw [h0, Int.tmod_eq_emod_of_nonneg h2, wrap64_id (by omega) (by omega)]
  omega
set_option maxRecDepth 100000 in
set_option maxHeartbeats 8000000 in
theorem formsLaw_yes (which : Int) (W : World) (hl : Laid W) : Calls Tryd.prog 5 #[.int .i64 which] W (Ret (.bool true) W) := by
  have HL := Lib.hid hl
  have HA := Lib.hid (awakeV_any W hl)
  obtain ⟨k, hk, hk16⟩ := u64_rem16 which
  clear hl
  go_enter Tryd.func5, Tryd.ntmps5
  go_wp2_with fail
  refine HA.out.mono ?_
  rintro e w1 ⟨rfl, hB⟩
  have B1 := Lib.hid hB
  obtain ⟨w2, hw2⟩ : ∃ w2, allocs w1 (formObjs w1) = w2 := ⟨_, rfl⟩
  have HW2 := Lib.hid hw2
  obtain ⟨b, hc, hrc⟩ := form_code w1 k hk16
  have hwant := form_int w1 k 19 formsW (by simp [formsW]; omega) (by simp [formObjs]) rfl
  have hpcs := form_int w1 k 20 formsP (by simp [formsP]; omega) (by simp [formObjs]) rfl
  have b2 := below_trans hB (allocs_below (formObjs w1) w1)
  have o0 := blk_cell (allocs_get (formObjs w1) w1 0 (by simp [formObjs]))
  have o1 := blk_cell (allocs_get (formObjs w1) w1 1 (by simp [formObjs]))
  rw [hw2] at hc hrc hwant hpcs b2 o0 o1
  have HC := Lib.hid hc
  have HRC := Lib.hid hrc
  have HWANT := Lib.hid hwant
  have HPCS := Lib.hid hpcs
  have B2 := Lib.hid b2
  have O0 := Lib.hid (And.intro (o0 0) (And.intro (o0 1) (And.intro (o1 0) (o1 1))))
  unfold formObjs at hw2
  simp only [allocs] at hw2
  clear hB hc hrc hwant hpcs b2 o0 o1
  go_upto_region 7 with fail
  clear hw2
  have e18 : w1.heap.size + 18 = w1.heap.size + 1 + 1 + 1 + 1 + 1 + 1 + 1 + 1 + 1 + 1 + 1 + 1 + 1 + 1 + 1 + 1 + 1 + 1 := rfl
  have e19 : w1.heap.size + 19 = w1.heap.size + 1 + 1 + 1 + 1 + 1 + 1 + 1 + 1 + 1 + 1 + 1 + 1 + 1 + 1 + 1 + 1 + 1 + 1 + 1 := rfl
  have e20 : w1.heap.size + 20 = w1.heap.size + 1 + 1 + 1 + 1 + 1 + 1 + 1 + 1 + 1 + 1 + 1 + 1 + 1 + 1 + 1 + 1 + 1 + 1 + 1 + 1 := rfl
  have hc := HC.out
  rw [e18] at hc
  rw [e19] at HWANT
  rw [e20] at HPCS
  obtain ⟨o00, o01, o10, o11⟩ := O0.out
  have O00 : w2.cell? ⟨w1.heap.size, 0, none⟩ = some (.int .i64 0) := o00
  have O01 : w2.cell? ⟨w1.heap.size, 1, none⟩ = some (.int .i64 1) := o01
  have O10 : w2.cell? ⟨w1.heap.size + 1, 0, none⟩ = some (.int .i64 16) := o10
  have O11 : w2.cell? ⟨w1.heap.size + 1, 1, none⟩ = some (.int .i64 0) := o11
  have l1 := fun {a v} (h : w2.cell? a = some v) (o : Obj) => (below_alloc (Below.refl w2.heap.size w2) o).cell (World.block_lt_of_cell? _ a h) |>.trans h
  have l2 := fun {a v} (h : w2.cell? a = some v) (o o' : Obj) => (below_alloc (below_alloc (Below.refl w2.heap.size w2) o) o').cell (World.block_lt_of_cell? _ a h) |>.trans h
  have c1 := l1 hc
  have c2 := l2 hc
  have p1 := l1 O00
  have p2 := l2 O00
  have q1 := l1 O01
  have q2 := l2 O01
  have r1 := l1 O10
  have r2 := l2 O10
  have s1 := l1 O11
  have s2 := l2 O11
  clear o00 o01 o10 o11 l1 l2 e18 e19 e20
  have k0 : (0 : Int) ≤ (k : Int) := by omega
  have kI : (k : Int) < 16 := by omega
  have kJ : (k : Int) ≤ 16 := by omega
  obtain ⟨L, hL⟩ : ∃ L, (formC k).length = L := ⟨_, rfl⟩
  rw [hL] at hc c1 c2
  have HLL := Lib.hid hL
  clear hL
  go_upto_region 8 with fail
  go_region
  · obtain ⟨w3, hw3⟩ : ∃ w3, (((w2.alloc (.cells #[.int .i64 0, .int .i64 1, .int .i64 16, .int .i64 0] 44)).alloc (.cells #[.int .i64 0, .int .i64 2, .slice (some ⟨b, 0, none⟩) L L, .int .i64 2, .int .i64 2, .slice (some ⟨w2.heap.size, 0, none⟩) 2 2] 42)).alloc (.cells #[.slice (some ⟨w2.heap.size + 1, 0, none⟩) 2 2] 24)).drew = w3 := ⟨_, rfl⟩
    have b23 : Below w2.heap.size w2 w3 := hw3 ▸ (allocs_below [.cells #[.int .i64 0, .int .i64 1, .int .i64 16, .int .i64 0] 44, .cells #[.int .i64 0, .int .i64 2, .slice (some ⟨b, 0, none⟩) L L, .int .i64 2, .int .i64 2, .slice (some ⟨w2.heap.size, 0, none⟩) 2 2] 42, .cells #[.slice (some ⟨w2.heap.size + 1, 0, none⟩) 2 2] 24] w2).drew
    have g0 := allocs_get [.cells #[.int .i64 0, .int .i64 1, .int .i64 16, .int .i64 0] 44, .cells #[.int .i64 0, .int .i64 2, .slice (some ⟨b, 0, none⟩) L L, .int .i64 2, .int .i64 2, .slice (some ⟨w2.heap.size, 0, none⟩) 2 2] 42, .cells #[.slice (some ⟨w2.heap.size + 1, 0, none⟩) 2 2] 24] w2 0 (by simp)
    have g1 := allocs_get [.cells #[.int .i64 0, .int .i64 1, .int .i64 16, .int .i64 0] 44, .cells #[.int .i64 0, .int .i64 2, .slice (some ⟨b, 0, none⟩) L L, .int .i64 2, .int .i64 2, .slice (some ⟨w2.heap.size, 0, none⟩) 2 2] 42, .cells #[.slice (some ⟨w2.heap.size + 1, 0, none⟩) 2 2] 24] w2 1 (by simp)
    have g2 := allocs_get [.cells #[.int .i64 0, .int .i64 1, .int .i64 16, .int .i64 0] 44, .cells #[.int .i64 0, .int .i64 2, .slice (some ⟨b, 0, none⟩) L L, .int .i64 2, .int .i64 2, .slice (some ⟨w2.heap.size, 0, none⟩) 2 2] 42, .cells #[.slice (some ⟨w2.heap.size + 1, 0, none⟩) 2 2] 24] w2 2 (by simp)
    have rC : w3.heap[w2.heap.size]? = some (.cells #[.int .i64 0, .int .i64 1, .int .i64 16, .int .i64 0] 44) := hw3 ▸ g0
    have rF : w3.heap[w2.heap.size + 1]? = some (.cells #[.int .i64 0, .int .i64 2, .slice (some ⟨b, 0, none⟩) L L, .int .i64 2, .int .i64 2, .slice (some ⟨w2.heap.size, 0, none⟩) 2 2] 42) := hw3 ▸ g1
    have rP : w3.heap[w2.heap.size + 1 + 1]? = some (.cells #[.slice (some ⟨w2.heap.size + 1, 0, none⟩) 2 2] 24) := hw3 ▸ g2
    have hP : w3.cell? ⟨w2.heap.size + 1 + 1, 0, none⟩ = some (.slice (some ⟨w2.heap.size + 1, 0, none⟩) 2 2) := (blk_cell rP 0).trans rfl
    have hRF : ReadsF w3 (some ⟨w2.heap.size + 1, 0, none⟩) (formPr k) := form_reads k _ _ b L w3 HLL.out rC rF (HRC.out.below b23)
    have HP := Lib.hid hP
    have HRF := Lib.hid hRF
    have B3 := Lib.hid (below_trans B2.out b23)
    have B23 := Lib.hid b23
    obtain ⟨f1, f2, f3⟩ := form_all k hk16
    have HV := Lib.hid (heightsV_any (formPr k) _ 2 0 w3 (HL.out.below B3.out) hRF)
    rw [f1] at HV
    have F2 := Lib.hid f2
    have F3 := Lib.hid f3
    clear b23 g0 g1 g2 rC rF rP hRF f1 f2 f3 c1 c2 p1 p2 q1 q2 r1 r2 s1 s2 O00 O01 O10 O11 hc
    rw [hw3]
    clear hw3
    go_wp2_with fail
    refine HV.out.mono ?_
    rintro e w4 hE
    obtain ⟨A4, c4, rfl, -, hB4⟩ := hE.reads
    have B4 := Lib.hid (below_trans B3.out hB4)
    have B24 := Lib.hid (below_trans B23.out hB4)
    have HRF4 := Lib.hid (HRF.out.below hB4)
    have hP4 := (hB4.cell (World.block_lt_of_cell? _ _ HP.out)).trans HP.out
    have HP4 := Lib.hid hP4
    have HV2 := Lib.hid (heightsV_any (formPr k) _ 2 1 w4 (HL.out.below B4.out) HRF4.out)
    obtain ⟨r, hr⟩ : ∃ r, heightsOf (formPr k) 1 = r := ⟨_, rfl⟩
    rw [hr] at HV2 F2
    have hr0 := F2.out
    obtain ⟨ra, rb, rc⟩ := r
    have hr0' : rc = 0 := hr0
    subst hr0'
    clear hE hB4 hP hr hr0 HV
    go_wp2_with fail
    refine HV2.out.mono ?_
    rintro e w5 hE
    obtain ⟨A5, c5, rfl, -, hB5⟩ := hE.reads
    have B5 := Lib.hid (below_trans B4.out hB5)
    have B25 := Lib.hid (below_trans B24.out hB5)
    have hP5 := (hB5.cell (World.block_lt_of_cell? _ _ HP4.out)).trans HP4.out
    have hW5 := (B25.out.cell (World.block_lt_of_cell? _ _ HWANT.out)).trans HWANT.out
    have hI5 := (B25.out.cell (World.block_lt_of_cell? _ _ HPCS.out)).trans HPCS.out
    have HPR := Lib.hid (fun W' (hb : Below w5.heap.size w5 W') => program_any (formPr k) _ 2 W' (HL.out.below (below_trans B5.out hb)) ((HRF4.out.below hB5).below hb))
    rw [F3.out] at HPR
    rw [show formsW.getD k 0 = formW k from rfl] at hW5
    rw [show formsP.getD k 0 = formP k from rfl] at hI5
    obtain ⟨fw, hfw⟩ : ∃ fw, formW k = fw := ⟨_, rfl⟩
    obtain ⟨fp, hfp⟩ : ∃ fp, formP k = fp := ⟨_, rfl⟩
    rw [hfw] at HPR hW5
    rw [hfp] at hI5
    rw [hfw, hfp]
    clear hE hB5 hP4 hfw hfp
    go_upto_region 11 with fail
    go_region_held3 (fun W' => W'.cell? ⟨w2.heap.size + 1 + 1, 0, none⟩ = some (.slice (some ⟨w2.heap.size + 1, 0, none⟩) 2 2) ∧ W'.cell? ⟨w1.heap.size + 1 + 1 + 1 + 1 + 1 + 1 + 1 + 1 + 1 + 1 + 1 + 1 + 1 + 1 + 1 + 1 + 1 + 1 + 1, k, none⟩ = some (.int .i64 fw) ∧ W'.cell? ⟨w1.heap.size + 1 + 1 + 1 + 1 + 1 + 1 + 1 + 1 + 1 + 1 + 1 + 1 + 1 + 1 + 1 + 1 + 1 + 1 + 1 + 1, k, none⟩ = some (.int .i64 fp) ∧ Below w5.heap.size w5 W')
      (first | exact ⟨hP5, hW5, hI5, Below.refl _ _⟩ | exact ⟨hP5, hW5, hI5, below_drew (Below.refl _ _) _⟩ | exact ⟨U1, U2, U3, U4⟩ | go_keep)
      (first | (go_at_call 16; refine (num_any _ _).mono ?_; rintro e wn ⟨rfl, rfl⟩) | (go_at_call 17; refine (HPR.out _ (by first | exact below_drew (Below.refl _ _) _ | assumption)).mono ?_; rintro e wb ⟨rfl, hb⟩; have U4 := below_trans (by first | exact below_drew (Below.refl _ _) _ | assumption : Below w5.heap.size w5 _) hb; have U1 := (U4.cell (World.block_lt_of_cell? _ _ hP5)).trans hP5; have U2 := (U4.cell (World.block_lt_of_cell? _ _ hW5)).trans hW5; have U3 := (U4.cell (World.block_lt_of_cell? _ _ hI5)).trans hI5))
    have HU4 := Lib.hid U4
    clear U1 U2 U3 U4 hb hP5 hW5 hI5
    go_wp2_with fail
    go_ret
    exact ⟨rfl, below_trans B5.out HU4.out⟩
  · obtain ⟨w3, hw3⟩ : ∃ w3, (((w2.alloc (.cells #[.int .i64 0, .int .i64 1, .int .i64 16, .int .i64 0] 44)).alloc (.cells #[.slice (some ⟨w2.heap.size + 1 + 1, 0, none⟩) 2 2] 24)).alloc (.cells #[.int .i64 0, .int .i64 2, .slice (some ⟨b, 0, none⟩) L L, .int .i64 2, .int .i64 2, .slice (some ⟨w2.heap.size, 0, none⟩) 2 2] 42)).drew = w3 := ⟨_, rfl⟩
    have b23 : Below w2.heap.size w2 w3 := hw3 ▸ (allocs_below [.cells #[.int .i64 0, .int .i64 1, .int .i64 16, .int .i64 0] 44, .cells #[.slice (some ⟨w2.heap.size + 1 + 1, 0, none⟩) 2 2] 24, .cells #[.int .i64 0, .int .i64 2, .slice (some ⟨b, 0, none⟩) L L, .int .i64 2, .int .i64 2, .slice (some ⟨w2.heap.size, 0, none⟩) 2 2] 42] w2).drew
    have g0 := allocs_get [.cells #[.int .i64 0, .int .i64 1, .int .i64 16, .int .i64 0] 44, .cells #[.slice (some ⟨w2.heap.size + 1 + 1, 0, none⟩) 2 2] 24, .cells #[.int .i64 0, .int .i64 2, .slice (some ⟨b, 0, none⟩) L L, .int .i64 2, .int .i64 2, .slice (some ⟨w2.heap.size, 0, none⟩) 2 2] 42] w2 0 (by simp)
    have g1 := allocs_get [.cells #[.int .i64 0, .int .i64 1, .int .i64 16, .int .i64 0] 44, .cells #[.slice (some ⟨w2.heap.size + 1 + 1, 0, none⟩) 2 2] 24, .cells #[.int .i64 0, .int .i64 2, .slice (some ⟨b, 0, none⟩) L L, .int .i64 2, .int .i64 2, .slice (some ⟨w2.heap.size, 0, none⟩) 2 2] 42] w2 1 (by simp)
    have g2 := allocs_get [.cells #[.int .i64 0, .int .i64 1, .int .i64 16, .int .i64 0] 44, .cells #[.slice (some ⟨w2.heap.size + 1 + 1, 0, none⟩) 2 2] 24, .cells #[.int .i64 0, .int .i64 2, .slice (some ⟨b, 0, none⟩) L L, .int .i64 2, .int .i64 2, .slice (some ⟨w2.heap.size, 0, none⟩) 2 2] 42] w2 2 (by simp)
    have rC : w3.heap[w2.heap.size]? = some (.cells #[.int .i64 0, .int .i64 1, .int .i64 16, .int .i64 0] 44) := hw3 ▸ g0
    have rF : w3.heap[w2.heap.size + 1 + 1]? = some (.cells #[.int .i64 0, .int .i64 2, .slice (some ⟨b, 0, none⟩) L L, .int .i64 2, .int .i64 2, .slice (some ⟨w2.heap.size, 0, none⟩) 2 2] 42) := hw3 ▸ g2
    have rP : w3.heap[w2.heap.size + 1]? = some (.cells #[.slice (some ⟨w2.heap.size + 1 + 1, 0, none⟩) 2 2] 24) := hw3 ▸ g1
    have hP : w3.cell? ⟨w2.heap.size + 1, 0, none⟩ = some (.slice (some ⟨w2.heap.size + 1 + 1, 0, none⟩) 2 2) := (blk_cell rP 0).trans rfl
    have hRF : ReadsF w3 (some ⟨w2.heap.size + 1 + 1, 0, none⟩) (formPr k) := form_reads k _ _ b L w3 HLL.out rC rF (HRC.out.below b23)
    have HP := Lib.hid hP
    have HRF := Lib.hid hRF
    have B3 := Lib.hid (below_trans B2.out b23)
    have B23 := Lib.hid b23
    obtain ⟨f1, f2, f3⟩ := form_all k hk16
    have HV := Lib.hid (heightsV_any (formPr k) _ 2 0 w3 (HL.out.below B3.out) hRF)
    rw [f1] at HV
    have F2 := Lib.hid f2
    have F3 := Lib.hid f3
    clear b23 g0 g1 g2 rC rF rP hRF f1 f2 f3 c1 c2 p1 p2 q1 q2 r1 r2 s1 s2 O00 O01 O10 O11 hc
    rw [hw3]
    clear hw3
    go_wp2_with fail
    refine HV.out.mono ?_
    rintro e w4 hE
    obtain ⟨A4, c4, rfl, -, hB4⟩ := hE.reads
    have B4 := Lib.hid (below_trans B3.out hB4)
    have B24 := Lib.hid (below_trans B23.out hB4)
    have HRF4 := Lib.hid (HRF.out.below hB4)
    have hP4 := (hB4.cell (World.block_lt_of_cell? _ _ HP.out)).trans HP.out
    have HP4 := Lib.hid hP4
    have HV2 := Lib.hid (heightsV_any (formPr k) _ 2 1 w4 (HL.out.below B4.out) HRF4.out)
    obtain ⟨r, hr⟩ : ∃ r, heightsOf (formPr k) 1 = r := ⟨_, rfl⟩
    rw [hr] at HV2 F2
    have hr0 := F2.out
    obtain ⟨ra, rb, rc⟩ := r
    have hr0' : rc = 0 := hr0
    subst hr0'
    clear hE hB4 hP hr hr0 HV
    go_wp2_with fail
    refine HV2.out.mono ?_
    rintro e w5 hE
    obtain ⟨A5, c5, rfl, -, hB5⟩ := hE.reads
    have B5 := Lib.hid (below_trans B4.out hB5)
    have B25 := Lib.hid (below_trans B24.out hB5)
    have hP5 := (hB5.cell (World.block_lt_of_cell? _ _ HP4.out)).trans HP4.out
    have hW5 := (B25.out.cell (World.block_lt_of_cell? _ _ HWANT.out)).trans HWANT.out
    have hI5 := (B25.out.cell (World.block_lt_of_cell? _ _ HPCS.out)).trans HPCS.out
    have HPR := Lib.hid (fun W' (hb : Below w5.heap.size w5 W') => program_any (formPr k) _ 2 W' (HL.out.below (below_trans B5.out hb)) ((HRF4.out.below hB5).below hb))
    rw [F3.out] at HPR
    rw [show formsW.getD k 0 = formW k from rfl] at hW5
    rw [show formsP.getD k 0 = formP k from rfl] at hI5
    obtain ⟨fw, hfw⟩ : ∃ fw, formW k = fw := ⟨_, rfl⟩
    obtain ⟨fp, hfp⟩ : ∃ fp, formP k = fp := ⟨_, rfl⟩
    rw [hfw] at HPR hW5
    rw [hfp] at hI5
    rw [hfw, hfp]
    clear hE hB5 hP4 hfw hfp
    go_upto_region 11 with fail
    go_region_held3 (fun W' => W'.cell? ⟨w2.heap.size + 1, 0, none⟩ = some (.slice (some ⟨w2.heap.size + 1 + 1, 0, none⟩) 2 2) ∧ W'.cell? ⟨w1.heap.size + 1 + 1 + 1 + 1 + 1 + 1 + 1 + 1 + 1 + 1 + 1 + 1 + 1 + 1 + 1 + 1 + 1 + 1 + 1, k, none⟩ = some (.int .i64 fw) ∧ W'.cell? ⟨w1.heap.size + 1 + 1 + 1 + 1 + 1 + 1 + 1 + 1 + 1 + 1 + 1 + 1 + 1 + 1 + 1 + 1 + 1 + 1 + 1 + 1, k, none⟩ = some (.int .i64 fp) ∧ Below w5.heap.size w5 W')
      (first | exact ⟨hP5, hW5, hI5, Below.refl _ _⟩ | exact ⟨hP5, hW5, hI5, below_drew (Below.refl _ _) _⟩ | exact ⟨U1, U2, U3, U4⟩ | go_keep)
      (first | (go_at_call 16; refine (num_any _ _).mono ?_; rintro e wn ⟨rfl, rfl⟩) | (go_at_call 17; refine (HPR.out _ (by first | exact below_drew (Below.refl _ _) _ | assumption)).mono ?_; rintro e wb ⟨rfl, hb⟩; have U4 := below_trans (by first | exact below_drew (Below.refl _ _) _ | assumption : Below w5.heap.size w5 _) hb; have U1 := (U4.cell (World.block_lt_of_cell? _ _ hP5)).trans hP5; have U2 := (U4.cell (World.block_lt_of_cell? _ _ hW5)).trans hW5; have U3 := (U4.cell (World.block_lt_of_cell? _ _ hI5)).trans hI5))
    have HU4 := Lib.hid U4
    clear U1 U2 U3 U4 hb hP5 hW5 hI5
    go_wp2_with fail
    go_ret
    exact ⟨rfl, below_trans B5.out HU4.out⟩
  · obtain ⟨w3, hw3⟩ : ∃ w3, (((w2.alloc (.cells #[.slice (some ⟨w2.heap.size + 1 + 1, 0, none⟩) 2 2] 24)).alloc (.cells #[.int .i64 0, .int .i64 1, .int .i64 16, .int .i64 0] 44)).alloc (.cells #[.int .i64 0, .int .i64 2, .slice (some ⟨b, 0, none⟩) L L, .int .i64 2, .int .i64 2, .slice (some ⟨w2.heap.size + 1, 0, none⟩) 2 2] 42)).drew = w3 := ⟨_, rfl⟩
    have b23 : Below w2.heap.size w2 w3 := hw3 ▸ (allocs_below [.cells #[.slice (some ⟨w2.heap.size + 1 + 1, 0, none⟩) 2 2] 24, .cells #[.int .i64 0, .int .i64 1, .int .i64 16, .int .i64 0] 44, .cells #[.int .i64 0, .int .i64 2, .slice (some ⟨b, 0, none⟩) L L, .int .i64 2, .int .i64 2, .slice (some ⟨w2.heap.size + 1, 0, none⟩) 2 2] 42] w2).drew
    have g0 := allocs_get [.cells #[.slice (some ⟨w2.heap.size + 1 + 1, 0, none⟩) 2 2] 24, .cells #[.int .i64 0, .int .i64 1, .int .i64 16, .int .i64 0] 44, .cells #[.int .i64 0, .int .i64 2, .slice (some ⟨b, 0, none⟩) L L, .int .i64 2, .int .i64 2, .slice (some ⟨w2.heap.size + 1, 0, none⟩) 2 2] 42] w2 0 (by simp)
    have g1 := allocs_get [.cells #[.slice (some ⟨w2.heap.size + 1 + 1, 0, none⟩) 2 2] 24, .cells #[.int .i64 0, .int .i64 1, .int .i64 16, .int .i64 0] 44, .cells #[.int .i64 0, .int .i64 2, .slice (some ⟨b, 0, none⟩) L L, .int .i64 2, .int .i64 2, .slice (some ⟨w2.heap.size + 1, 0, none⟩) 2 2] 42] w2 1 (by simp)
    have g2 := allocs_get [.cells #[.slice (some ⟨w2.heap.size + 1 + 1, 0, none⟩) 2 2] 24, .cells #[.int .i64 0, .int .i64 1, .int .i64 16, .int .i64 0] 44, .cells #[.int .i64 0, .int .i64 2, .slice (some ⟨b, 0, none⟩) L L, .int .i64 2, .int .i64 2, .slice (some ⟨w2.heap.size + 1, 0, none⟩) 2 2] 42] w2 2 (by simp)
    have rC : w3.heap[w2.heap.size + 1]? = some (.cells #[.int .i64 0, .int .i64 1, .int .i64 16, .int .i64 0] 44) := hw3 ▸ g1
    have rF : w3.heap[w2.heap.size + 1 + 1]? = some (.cells #[.int .i64 0, .int .i64 2, .slice (some ⟨b, 0, none⟩) L L, .int .i64 2, .int .i64 2, .slice (some ⟨w2.heap.size + 1, 0, none⟩) 2 2] 42) := hw3 ▸ g2
    have rP : w3.heap[w2.heap.size]? = some (.cells #[.slice (some ⟨w2.heap.size + 1 + 1, 0, none⟩) 2 2] 24) := hw3 ▸ g0
    have hP : w3.cell? ⟨w2.heap.size, 0, none⟩ = some (.slice (some ⟨w2.heap.size + 1 + 1, 0, none⟩) 2 2) := (blk_cell rP 0).trans rfl
    have hRF : ReadsF w3 (some ⟨w2.heap.size + 1 + 1, 0, none⟩) (formPr k) := form_reads k _ _ b L w3 HLL.out rC rF (HRC.out.below b23)
    have HP := Lib.hid hP
    have HRF := Lib.hid hRF
    have B3 := Lib.hid (below_trans B2.out b23)
    have B23 := Lib.hid b23
    obtain ⟨f1, f2, f3⟩ := form_all k hk16
    have HV := Lib.hid (heightsV_any (formPr k) _ 2 0 w3 (HL.out.below B3.out) hRF)
    rw [f1] at HV
    have F2 := Lib.hid f2
    have F3 := Lib.hid f3
    clear b23 g0 g1 g2 rC rF rP hRF f1 f2 f3 c1 c2 p1 p2 q1 q2 r1 r2 s1 s2 O00 O01 O10 O11 hc
    rw [hw3]
    clear hw3
    go_wp2_with fail
    refine HV.out.mono ?_
    rintro e w4 hE
    obtain ⟨A4, c4, rfl, -, hB4⟩ := hE.reads
    have B4 := Lib.hid (below_trans B3.out hB4)
    have B24 := Lib.hid (below_trans B23.out hB4)
    have HRF4 := Lib.hid (HRF.out.below hB4)
    have hP4 := (hB4.cell (World.block_lt_of_cell? _ _ HP.out)).trans HP.out
    have HP4 := Lib.hid hP4
    have HV2 := Lib.hid (heightsV_any (formPr k) _ 2 1 w4 (HL.out.below B4.out) HRF4.out)
    obtain ⟨r, hr⟩ : ∃ r, heightsOf (formPr k) 1 = r := ⟨_, rfl⟩
    rw [hr] at HV2 F2
    have hr0 := F2.out
    obtain ⟨ra, rb, rc⟩ := r
    have hr0' : rc = 0 := hr0
    subst hr0'
    clear hE hB4 hP hr hr0 HV
    go_wp2_with fail
    refine HV2.out.mono ?_
    rintro e w5 hE
    obtain ⟨A5, c5, rfl, -, hB5⟩ := hE.reads
    have B5 := Lib.hid (below_trans B4.out hB5)
    have B25 := Lib.hid (below_trans B24.out hB5)
    have hP5 := (hB5.cell (World.block_lt_of_cell? _ _ HP4.out)).trans HP4.out
    have hW5 := (B25.out.cell (World.block_lt_of_cell? _ _ HWANT.out)).trans HWANT.out
    have hI5 := (B25.out.cell (World.block_lt_of_cell? _ _ HPCS.out)).trans HPCS.out
    have HPR := Lib.hid (fun W' (hb : Below w5.heap.size w5 W') => program_any (formPr k) _ 2 W' (HL.out.below (below_trans B5.out hb)) ((HRF4.out.below hB5).below hb))
    rw [F3.out] at HPR
    rw [show formsW.getD k 0 = formW k from rfl] at hW5
    rw [show formsP.getD k 0 = formP k from rfl] at hI5
    obtain ⟨fw, hfw⟩ : ∃ fw, formW k = fw := ⟨_, rfl⟩
    obtain ⟨fp, hfp⟩ : ∃ fp, formP k = fp := ⟨_, rfl⟩
    rw [hfw] at HPR hW5
    rw [hfp] at hI5
    rw [hfw, hfp]
    clear hE hB5 hP4 hfw hfp
    go_upto_region 11 with fail
    go_region_held3 (fun W' => W'.cell? ⟨w2.heap.size, 0, none⟩ = some (.slice (some ⟨w2.heap.size + 1 + 1, 0, none⟩) 2 2) ∧ W'.cell? ⟨w1.heap.size + 1 + 1 + 1 + 1 + 1 + 1 + 1 + 1 + 1 + 1 + 1 + 1 + 1 + 1 + 1 + 1 + 1 + 1 + 1, k, none⟩ = some (.int .i64 fw) ∧ W'.cell? ⟨w1.heap.size + 1 + 1 + 1 + 1 + 1 + 1 + 1 + 1 + 1 + 1 + 1 + 1 + 1 + 1 + 1 + 1 + 1 + 1 + 1 + 1, k, none⟩ = some (.int .i64 fp) ∧ Below w5.heap.size w5 W')
      (first | exact ⟨hP5, hW5, hI5, Below.refl _ _⟩ | exact ⟨hP5, hW5, hI5, below_drew (Below.refl _ _) _⟩ | exact ⟨U1, U2, U3, U4⟩ | go_keep)
      (first | (go_at_call 16; refine (num_any _ _).mono ?_; rintro e wn ⟨rfl, rfl⟩) | (go_at_call 17; refine (HPR.out _ (by first | exact below_drew (Below.refl _ _) _ | assumption)).mono ?_; rintro e wb ⟨rfl, hb⟩; have U4 := below_trans (by first | exact below_drew (Below.refl _ _) _ | assumption : Below w5.heap.size w5 _) hb; have U1 := (U4.cell (World.block_lt_of_cell? _ _ hP5)).trans hP5; have U2 := (U4.cell (World.block_lt_of_cell? _ _ hW5)).trans hW5; have U3 := (U4.cell (World.block_lt_of_cell? _ _ hI5)).trans hI5))
    have HU4 := Lib.hid U4
    clear U1 U2 U3 U4 hb hP5 hW5 hI5
    go_wp2_with fail
    go_ret
    exact ⟨rfl, below_trans B5.out HU4.out⟩
end Go.Proofs.YtdjlaglilokjeaaDoor
