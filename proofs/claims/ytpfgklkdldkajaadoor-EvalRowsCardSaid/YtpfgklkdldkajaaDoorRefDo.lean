/- The document's 'Wrap' and 'Do': an operation of two numbers. Condition: they are numbers, it is an operation. -/
import Derived.Test.YtpfgklkdldkajaaDoorGE16
namespace Go.Proofs.YtpfgklkdldkajaaDoor
open Go.RowKit

theorem refWrapN_any (x : Int) (w : World) : Calls Tryd.prog 30 #[.int .i64 x] w fun e w' => e = .returned (.int .i64 (wrapN x)) ∧ w' = w := by
  have H := Lib.hid (show wrap64 (wrap32 (IntKind.u64.wrap x % 4294967296)) = wrapN x by rw [← wrap_n]; congr 1; rw [IntKind.wrap_u64]; unfold wrap32; omega)
  go_enter Tryd.func30, Tryd.ntmps30
  go_wp2
  go_ret
  exact ⟨by rw [← H.out]; rfl, rfl⟩
set_option maxRecDepth 100000 in
set_option maxHeartbeats 4000000 in
theorem rdo3_any (a b : Int) (ha : isNum a = true) (hb : isNum b = true) (w : World) : Calls Tryd.prog 31 #[.int .i64 3, .int .i64 a, .int .i64 b] w fun e w' => e = .returned (.tuple #[.int .i64 (doN 3 a b).1, .bool (doN 3 a b).2, .int .i64 0]) ∧ w' = w := by
  have HA := Lib.hid (show ∀ W, Calls Tryd.prog 57 #[.int .i64 a] W fun e w' => e = .returned (.bool true) ∧ w' = W from fun W => by have := number_any a W; rwa [ha] at this)
  have HB := Lib.hid (show ∀ W, Calls Tryd.prog 57 #[.int .i64 b] W fun e w' => e = .returned (.bool true) ∧ w' = W from fun W => by have := number_any b W; rwa [hb] at this)
  have na := num_yes.1 ha
  have nb := num_yes.1 hb
  have hw : IntKind.i64.wrap (a + b) = a + b := by rw [IntKind.wrap_i64]; omega
  have HE := Lib.hid (show doN 3 a b = (wrapN (a + b), false) by unfold doN; rw [if_neg (fun h => by omega)]; rfl)
  clear ha hb na nb
  go_enter Tryd.func31, Tryd.ntmps31
  go_wp2_with (first | (go_at_call 57; first | ((with_reducible refine (HA.out _).mono ?_); rintro e wn ⟨rfl, rfl⟩) | ((with_reducible refine (HB.out _).mono ?_); rintro e wn ⟨rfl, rfl⟩)) | (go_at_call 30; (with_reducible refine (refWrapN_any _ _).mono ?_); rintro e wn ⟨rfl, rfl⟩) | fail)
  exact bodyPost_ret (v := .tuple #[.int .i64 (wrapN (a + b)), .bool false, .int .i64 0]) (by simp [results, Tryd.results31, go_sem]) rfl ⟨by rw [HE.out], rfl⟩
set_option maxRecDepth 100000 in
set_option maxHeartbeats 4000000 in
theorem rdo4_any (a b : Int) (ha : isNum a = true) (hb : isNum b = true) (w : World) : Calls Tryd.prog 31 #[.int .i64 4, .int .i64 a, .int .i64 b] w fun e w' => e = .returned (.tuple #[.int .i64 (doN 4 a b).1, .bool (doN 4 a b).2, .int .i64 0]) ∧ w' = w := by
  have HA := Lib.hid (show ∀ W, Calls Tryd.prog 57 #[.int .i64 a] W fun e w' => e = .returned (.bool true) ∧ w' = W from fun W => by have := number_any a W; rwa [ha] at this)
  have HB := Lib.hid (show ∀ W, Calls Tryd.prog 57 #[.int .i64 b] W fun e w' => e = .returned (.bool true) ∧ w' = W from fun W => by have := number_any b W; rwa [hb] at this)
  have na := num_yes.1 ha
  have nb := num_yes.1 hb
  have hn : IntKind.i64.wrap (-b) = -b := by rw [IntKind.wrap_i64]; omega
  have hw : IntKind.i64.wrap (a + -b) = a - b := by rw [IntKind.wrap_i64]; omega
  have hw2 : IntKind.i64.wrap (a - b) = a - b := by rw [IntKind.wrap_i64]; omega
  have HE := Lib.hid (show doN 4 a b = (wrapN (a - b), false) by unfold doN; rw [if_neg (fun h => by omega)]; rfl)
  clear ha hb na nb
  go_enter Tryd.func31, Tryd.ntmps31
  go_wp2_with (first | (go_at_call 57; first | ((with_reducible refine (HA.out _).mono ?_); rintro e wn ⟨rfl, rfl⟩) | ((with_reducible refine (HB.out _).mono ?_); rintro e wn ⟨rfl, rfl⟩)) | (go_at_call 30; (with_reducible refine (refWrapN_any _ _).mono ?_); rintro e wn ⟨rfl, rfl⟩) | fail)
  exact bodyPost_ret (v := .tuple #[.int .i64 (wrapN (a - b)), .bool false, .int .i64 0]) (by simp [results, Tryd.results31, go_sem]) rfl ⟨by rw [HE.out], rfl⟩
set_option maxRecDepth 100000 in
set_option maxHeartbeats 4000000 in
theorem rdo5_any (a b : Int) (ha : isNum a = true) (hb : isNum b = true) (w : World) : Calls Tryd.prog 31 #[.int .i64 5, .int .i64 a, .int .i64 b] w fun e w' => e = .returned (.tuple #[.int .i64 (doN 5 a b).1, .bool (doN 5 a b).2, .int .i64 0]) ∧ w' = w := by
  have HA := Lib.hid (show ∀ W, Calls Tryd.prog 57 #[.int .i64 a] W fun e w' => e = .returned (.bool true) ∧ w' = W from fun W => by have := number_any a W; rwa [ha] at this)
  have HB := Lib.hid (show ∀ W, Calls Tryd.prog 57 #[.int .i64 b] W fun e w' => e = .returned (.bool true) ∧ w' = W from fun W => by have := number_any b W; rwa [hb] at this)
  have na := num_yes.1 ha
  have nb := num_yes.1 hb
  have hw := mul_in na nb
  have HE := Lib.hid (show doN 5 a b = (wrapN (a * b), false) by unfold doN; rw [if_neg (fun h => by omega)]; rfl)
  clear ha hb na nb
  go_enter Tryd.func31, Tryd.ntmps31
  go_wp2_with (first | (go_at_call 57; first | ((with_reducible refine (HA.out _).mono ?_); rintro e wn ⟨rfl, rfl⟩) | ((with_reducible refine (HB.out _).mono ?_); rintro e wn ⟨rfl, rfl⟩)) | (go_at_call 30; (with_reducible refine (refWrapN_any _ _).mono ?_); rintro e wn ⟨rfl, rfl⟩) | fail)
  exact bodyPost_ret (v := .tuple #[.int .i64 (wrapN (a * b)), .bool false, .int .i64 0]) (by simp [results, Tryd.results31, go_sem]) rfl ⟨by rw [HE.out], rfl⟩
set_option maxRecDepth 100000 in
set_option maxHeartbeats 4000000 in
theorem rdo6_any (a b : Int) (ha : isNum a = true) (hb : isNum b = true) (w : World) : Calls Tryd.prog 31 #[.int .i64 6, .int .i64 a, .int .i64 b] w fun e w' => e = .returned (.tuple #[.int .i64 (doN 6 a b).1, .bool (doN 6 a b).2, .int .i64 0]) ∧ w' = w := by
  have HA := Lib.hid (show ∀ W, Calls Tryd.prog 57 #[.int .i64 a] W fun e w' => e = .returned (.bool true) ∧ w' = W from fun W => by have := number_any a W; rwa [ha] at this)
  have HB := Lib.hid (show ∀ W, Calls Tryd.prog 57 #[.int .i64 b] W fun e w' => e = .returned (.bool true) ∧ w' = W from fun W => by have := number_any b W; rwa [hb] at this)
  have na := num_yes.1 ha
  have nb := num_yes.1 hb
  have hw := quo_in (b := b) na
  have hw2 := rem_in (b := b) na
  by_cases h0 : b = 0
  · have HE := Lib.hid (show doN 6 a b = (0, true) by unfold doN; rw [if_pos ⟨by decide, h0⟩])
    have d0 : (b == 0) = true := by simpa using h0
    clear ha hb na nb h0
    go_enter Tryd.func31, Tryd.ntmps31
    go_wp2_with (first | (go_at_call 57; first | ((with_reducible refine (HA.out _).mono ?_); rintro e wn ⟨rfl, rfl⟩) | ((with_reducible refine (HB.out _).mono ?_); rintro e wn ⟨rfl, rfl⟩)) | (go_at_call 30; (with_reducible refine (refWrapN_any _ _).mono ?_); rintro e wn ⟨rfl, rfl⟩) | fail)
    exact bodyPost_ret (v := .tuple #[.int .i64 (0), .bool true, .int .i64 0]) (by simp [results, Tryd.results31, go_sem]) rfl ⟨by rw [HE.out], rfl⟩
  have HE := Lib.hid (show doN 6 a b = (wrapN (a.tdiv b), false) by unfold doN; rw [if_neg (fun h => h0 h.2)]; rfl)
  have d0 : (b == 0) = false := by simpa using h0
  clear ha hb na nb
  go_enter Tryd.func31, Tryd.ntmps31
  go_wp2_with (first | (go_at_call 57; first | ((with_reducible refine (HA.out _).mono ?_); rintro e wn ⟨rfl, rfl⟩) | ((with_reducible refine (HB.out _).mono ?_); rintro e wn ⟨rfl, rfl⟩)) | (go_at_call 30; (with_reducible refine (refWrapN_any _ _).mono ?_); rintro e wn ⟨rfl, rfl⟩) | fail)
  exact bodyPost_ret (v := .tuple #[.int .i64 (wrapN (a.tdiv b)), .bool false, .int .i64 0]) (by simp [results, Tryd.results31, go_sem]) rfl ⟨by rw [HE.out], rfl⟩
set_option maxRecDepth 100000 in
set_option maxHeartbeats 4000000 in
theorem rdo7_any (a b : Int) (ha : isNum a = true) (hb : isNum b = true) (w : World) : Calls Tryd.prog 31 #[.int .i64 7, .int .i64 a, .int .i64 b] w fun e w' => e = .returned (.tuple #[.int .i64 (doN 7 a b).1, .bool (doN 7 a b).2, .int .i64 0]) ∧ w' = w := by
  have HA := Lib.hid (show ∀ W, Calls Tryd.prog 57 #[.int .i64 a] W fun e w' => e = .returned (.bool true) ∧ w' = W from fun W => by have := number_any a W; rwa [ha] at this)
  have HB := Lib.hid (show ∀ W, Calls Tryd.prog 57 #[.int .i64 b] W fun e w' => e = .returned (.bool true) ∧ w' = W from fun W => by have := number_any b W; rwa [hb] at this)
  have na := num_yes.1 ha
  have nb := num_yes.1 hb
  have hw := quo_in (b := b) na
  have hw2 := rem_in (b := b) na
  by_cases h0 : b = 0
  · have HE := Lib.hid (show doN 7 a b = (0, true) by unfold doN; rw [if_pos ⟨by decide, h0⟩])
    have d0 : (b == 0) = true := by simpa using h0
    clear ha hb na nb h0
    go_enter Tryd.func31, Tryd.ntmps31
    go_wp2_with (first | (go_at_call 57; first | ((with_reducible refine (HA.out _).mono ?_); rintro e wn ⟨rfl, rfl⟩) | ((with_reducible refine (HB.out _).mono ?_); rintro e wn ⟨rfl, rfl⟩)) | (go_at_call 30; (with_reducible refine (refWrapN_any _ _).mono ?_); rintro e wn ⟨rfl, rfl⟩) | fail)
    exact bodyPost_ret (v := .tuple #[.int .i64 (0), .bool true, .int .i64 0]) (by simp [results, Tryd.results31, go_sem]) rfl ⟨by rw [HE.out], rfl⟩
  have HE := Lib.hid (show doN 7 a b = (wrapN (a.tmod b), false) by unfold doN; rw [if_neg (fun h => h0 h.2)]; rfl)
  have d0 : (b == 0) = false := by simpa using h0
  clear ha hb na nb
  go_enter Tryd.func31, Tryd.ntmps31
  go_wp2_with (first | (go_at_call 57; first | ((with_reducible refine (HA.out _).mono ?_); rintro e wn ⟨rfl, rfl⟩) | ((with_reducible refine (HB.out _).mono ?_); rintro e wn ⟨rfl, rfl⟩)) | (go_at_call 30; (with_reducible refine (refWrapN_any _ _).mono ?_); rintro e wn ⟨rfl, rfl⟩) | fail)
  exact bodyPost_ret (v := .tuple #[.int .i64 (wrapN (a.tmod b)), .bool false, .int .i64 0]) (by simp [results, Tryd.results31, go_sem]) rfl ⟨by rw [HE.out], rfl⟩
set_option maxRecDepth 100000 in
set_option maxHeartbeats 4000000 in
theorem rdo8_any (a b : Int) (ha : isNum a = true) (hb : isNum b = true) (w : World) : Calls Tryd.prog 31 #[.int .i64 8, .int .i64 a, .int .i64 b] w fun e w' => e = .returned (.tuple #[.int .i64 (doN 8 a b).1, .bool (doN 8 a b).2, .int .i64 0]) ∧ w' = w := by
  have HA := Lib.hid (show ∀ W, Calls Tryd.prog 57 #[.int .i64 a] W fun e w' => e = .returned (.bool true) ∧ w' = W from fun W => by have := number_any a W; rwa [ha] at this)
  have HB := Lib.hid (show ∀ W, Calls Tryd.prog 57 #[.int .i64 b] W fun e w' => e = .returned (.bool true) ∧ w' = W from fun W => by have := number_any b W; rwa [hb] at this)
  have na := num_yes.1 ha
  have nb := num_yes.1 hb
  by_cases h : a = b
  · have HE := Lib.hid (show doN 8 a b = (wrapN 1, false) by unfold doN; rw [if_neg (fun h => by omega)]; simp [h])
    have d1 : (a == b) = true := by simpa using h
    clear ha hb na nb h
    go_enter Tryd.func31, Tryd.ntmps31
    go_wp2_with (first | (go_at_call 57; first | ((with_reducible refine (HA.out _).mono ?_); rintro e wn ⟨rfl, rfl⟩) | ((with_reducible refine (HB.out _).mono ?_); rintro e wn ⟨rfl, rfl⟩)) | (go_at_call 30; (with_reducible refine (refWrapN_any _ _).mono ?_); rintro e wn ⟨rfl, rfl⟩) | fail)
    exact bodyPost_ret (v := .tuple #[.int .i64 (wrapN 1), .bool false, .int .i64 0]) (by simp [results, Tryd.results31, go_sem]) rfl ⟨by rw [HE.out], rfl⟩
  · have HE := Lib.hid (show doN 8 a b = (wrapN 0, false) by unfold doN; rw [if_neg (fun h => by omega)]; simp [h])
    have d1 : (a == b) = false := by simpa using h
    clear ha hb na nb h
    go_enter Tryd.func31, Tryd.ntmps31
    go_wp2_with (first | (go_at_call 57; first | ((with_reducible refine (HA.out _).mono ?_); rintro e wn ⟨rfl, rfl⟩) | ((with_reducible refine (HB.out _).mono ?_); rintro e wn ⟨rfl, rfl⟩)) | (go_at_call 30; (with_reducible refine (refWrapN_any _ _).mono ?_); rintro e wn ⟨rfl, rfl⟩) | fail)
    exact bodyPost_ret (v := .tuple #[.int .i64 (wrapN 0), .bool false, .int .i64 0]) (by simp [results, Tryd.results31, go_sem]) rfl ⟨by rw [HE.out], rfl⟩
set_option maxRecDepth 100000 in
set_option maxHeartbeats 4000000 in
theorem rdo9_any (a b : Int) (ha : isNum a = true) (hb : isNum b = true) (w : World) : Calls Tryd.prog 31 #[.int .i64 9, .int .i64 a, .int .i64 b] w fun e w' => e = .returned (.tuple #[.int .i64 (doN 9 a b).1, .bool (doN 9 a b).2, .int .i64 0]) ∧ w' = w := by
  have HA := Lib.hid (show ∀ W, Calls Tryd.prog 57 #[.int .i64 a] W fun e w' => e = .returned (.bool true) ∧ w' = W from fun W => by have := number_any a W; rwa [ha] at this)
  have HB := Lib.hid (show ∀ W, Calls Tryd.prog 57 #[.int .i64 b] W fun e w' => e = .returned (.bool true) ∧ w' = W from fun W => by have := number_any b W; rwa [hb] at this)
  have na := num_yes.1 ha
  have nb := num_yes.1 hb
  by_cases h : a < b
  · have HE := Lib.hid (show doN 9 a b = (wrapN 1, false) by unfold doN; rw [if_neg (fun h => by omega)]; simp [h])
    have d1 : decide (a < b) = true := by simpa using h
    clear ha hb na nb h
    go_enter Tryd.func31, Tryd.ntmps31
    go_wp2_with (first | (go_at_call 57; first | ((with_reducible refine (HA.out _).mono ?_); rintro e wn ⟨rfl, rfl⟩) | ((with_reducible refine (HB.out _).mono ?_); rintro e wn ⟨rfl, rfl⟩)) | (go_at_call 30; (with_reducible refine (refWrapN_any _ _).mono ?_); rintro e wn ⟨rfl, rfl⟩) | fail)
    exact bodyPost_ret (v := .tuple #[.int .i64 (wrapN 1), .bool false, .int .i64 0]) (by simp [results, Tryd.results31, go_sem]) rfl ⟨by rw [HE.out], rfl⟩
  · have HE := Lib.hid (show doN 9 a b = (wrapN 0, false) by unfold doN; rw [if_neg (fun h => by omega)]; simp [h])
    have d1 : decide (a < b) = false := by simpa using h
    clear ha hb na nb h
    go_enter Tryd.func31, Tryd.ntmps31
    go_wp2_with (first | (go_at_call 57; first | ((with_reducible refine (HA.out _).mono ?_); rintro e wn ⟨rfl, rfl⟩) | ((with_reducible refine (HB.out _).mono ?_); rintro e wn ⟨rfl, rfl⟩)) | (go_at_call 30; (with_reducible refine (refWrapN_any _ _).mono ?_); rintro e wn ⟨rfl, rfl⟩) | fail)
    exact bodyPost_ret (v := .tuple #[.int .i64 (wrapN 0), .bool false, .int .i64 0]) (by simp [results, Tryd.results31, go_sem]) rfl ⟨by rw [HE.out], rfl⟩
theorem rdo_any {k : Int} (h3 : 3 ≤ k) (h9 : k ≤ 9) (a b : Int) (ha : isNum a = true) (hb : isNum b = true) (w : World) : Calls Tryd.prog 31 #[.int .i64 k, .int .i64 a, .int .i64 b] w fun e w' => e = .returned (.tuple #[.int .i64 (doN k a b).1, .bool (doN k a b).2, .int .i64 0]) ∧ w' = w := by
  obtain rfl | rfl | rfl | rfl | rfl | rfl | rfl : k = 3 ∨ k = 4 ∨ k = 5 ∨ k = 6 ∨ k = 7 ∨ k = 8 ∨ k = 9 := by omega
  · exact rdo3_any a b ha hb w
  · exact rdo4_any a b ha hb w
  · exact rdo5_any a b ha hb w
  · exact rdo6_any a b ha hb w
  · exact rdo7_any a b ha hb w
  · exact rdo8_any a b ha hb w
  · exact rdo9_any a b ha hb w
end Go.Proofs.YtpfgklkdldkajaaDoor
