/- The document's 'Wrap' and 'Do': an operation of two numbers. Condition: they are numbers, it is an operation. From the row's premise on errors.errorType to the variable's cell; a world that meets the premise. From the row's reading of a program to its cells. -/
import Derived.Test.YtjghibdlmmjobaaGreatDoorGZ17
import Derived.Test.YtjghibdlmmjobaaGreatDoorRows
import Derived.Test.YtjghibdlmmjobaaGreatDoorGZ04
import Derived.ChangeSame
import Derived.ChangeVars
import Derived.JoinedOf
import Derived.RowKit
import Derived.RowKitTokens
import Derived.LaidLaws
import Derived.LaidHandle
import Derived.Stop.Joined
import Derived.ProofKit
import Derived.OpenShut
import Derived.Test.YtjghibdlmmjobaaGreatDoorGZ09
import Derived.Deep.Slices
import Derived.SizedLaws
namespace Go.Proofs.YtjghibdlmmjobaaGreatDoor
open Go.RowKit

theorem refWrapN_any (x : Int) (w : World) : Calls Tryz.prog 44 #[.int .i64 x] w fun e w' => e = .returned (.int .i64 (wrapN x)) ∧ w' = w := by
  have H := Lib.hid (show wrap64 (wrap32 (IntKind.u64.wrap x % 4294967296)) = wrapN x by rw [← wrap_n]; congr 1; rw [IntKind.wrap_u64]; unfold wrap32; omega)
  go_enter Tryz.func44, Tryz.ntmps44
  go_wp2
  go_ret
  exact ⟨by rw [← H.out]; rfl, rfl⟩
set_option maxRecDepth 100000 in
set_option maxHeartbeats 4000000 in
theorem rdo3_any (a b : Int) (ha : isNum a = true) (hb : isNum b = true) (w : World) : Calls Tryz.prog 147 #[.int .i64 3, .int .i64 a, .int .i64 b] w fun e w' => e = .returned (.tuple #[.int .i64 (doN 3 a b).1, .bool (doN 3 a b).2, .int .i64 0]) ∧ w' = w := by
  have HA := Lib.hid (show ∀ W, Calls Tryz.prog 76 #[.int .i64 a] W fun e w' => e = .returned (.bool true) ∧ w' = W from fun W => by have := number_any a W; rwa [ha] at this)
  have HB := Lib.hid (show ∀ W, Calls Tryz.prog 76 #[.int .i64 b] W fun e w' => e = .returned (.bool true) ∧ w' = W from fun W => by have := number_any b W; rwa [hb] at this)
  have na := num_yes.1 ha
  have nb := num_yes.1 hb
  have hw : IntKind.i64.wrap (a + b) = a + b := by rw [IntKind.wrap_i64]; omega
  have HE := Lib.hid (show doN 3 a b = (wrapN (a + b), false) by unfold doN; rw [if_neg (fun h => by omega)]; rfl)
  clear ha hb na nb
  go_enter Tryz.func147, Tryz.ntmps147
  go_wp2_with (first | (go_at_call 76; first | ((with_reducible refine (HA.out _).mono ?_); rintro e wn ⟨rfl, rfl⟩) | ((with_reducible refine (HB.out _).mono ?_); rintro e wn ⟨rfl, rfl⟩)) | (go_at_call 44; (with_reducible refine (refWrapN_any _ _).mono ?_); rintro e wn ⟨rfl, rfl⟩) | fail)
  exact bodyPost_ret (v := .tuple #[.int .i64 (wrapN (a + b)), .bool false, .int .i64 0]) (by simp [results, Tryz.results147, go_sem]) rfl ⟨by rw [HE.out], rfl⟩
set_option maxRecDepth 100000 in
set_option maxHeartbeats 4000000 in
theorem rdo4_any (a b : Int) (ha : isNum a = true) (hb : isNum b = true) (w : World) : Calls Tryz.prog 147 #[.int .i64 4, .int .i64 a, .int .i64 b] w fun e w' => e = .returned (.tuple #[.int .i64 (doN 4 a b).1, .bool (doN 4 a b).2, .int .i64 0]) ∧ w' = w := by
  have HA := Lib.hid (show ∀ W, Calls Tryz.prog 76 #[.int .i64 a] W fun e w' => e = .returned (.bool true) ∧ w' = W from fun W => by have := number_any a W; rwa [ha] at this)
  have HB := Lib.hid (show ∀ W, Calls Tryz.prog 76 #[.int .i64 b] W fun e w' => e = .returned (.bool true) ∧ w' = W from fun W => by have := number_any b W; rwa [hb] at this)
  have na := num_yes.1 ha
  have nb := num_yes.1 hb
  have hn : IntKind.i64.wrap (-b) = -b := by rw [IntKind.wrap_i64]; omega
  have hw : IntKind.i64.wrap (a + -b) = a - b := by rw [IntKind.wrap_i64]; omega
  have hw2 : IntKind.i64.wrap (a - b) = a - b := by rw [IntKind.wrap_i64]; omega
  have HE := Lib.hid (show doN 4 a b = (wrapN (a - b), false) by unfold doN; rw [if_neg (fun h => by omega)]; rfl)
  clear ha hb na nb
  go_enter Tryz.func147, Tryz.ntmps147
  go_wp2_with (first | (go_at_call 76; first | ((with_reducible refine (HA.out _).mono ?_); rintro e wn ⟨rfl, rfl⟩) | ((with_reducible refine (HB.out _).mono ?_); rintro e wn ⟨rfl, rfl⟩)) | (go_at_call 44; (with_reducible refine (refWrapN_any _ _).mono ?_); rintro e wn ⟨rfl, rfl⟩) | fail)
  exact bodyPost_ret (v := .tuple #[.int .i64 (wrapN (a - b)), .bool false, .int .i64 0]) (by simp [results, Tryz.results147, go_sem]) rfl ⟨by rw [HE.out], rfl⟩
set_option maxRecDepth 100000 in
set_option maxHeartbeats 4000000 in
theorem rdo5_any (a b : Int) (ha : isNum a = true) (hb : isNum b = true) (w : World) : Calls Tryz.prog 147 #[.int .i64 5, .int .i64 a, .int .i64 b] w fun e w' => e = .returned (.tuple #[.int .i64 (doN 5 a b).1, .bool (doN 5 a b).2, .int .i64 0]) ∧ w' = w := by
  have HA := Lib.hid (show ∀ W, Calls Tryz.prog 76 #[.int .i64 a] W fun e w' => e = .returned (.bool true) ∧ w' = W from fun W => by have := number_any a W; rwa [ha] at this)
  have HB := Lib.hid (show ∀ W, Calls Tryz.prog 76 #[.int .i64 b] W fun e w' => e = .returned (.bool true) ∧ w' = W from fun W => by have := number_any b W; rwa [hb] at this)
  have na := num_yes.1 ha
  have nb := num_yes.1 hb
  have hw := mul_in na nb
  have HE := Lib.hid (show doN 5 a b = (wrapN (a * b), false) by unfold doN; rw [if_neg (fun h => by omega)]; rfl)
  clear ha hb na nb
  go_enter Tryz.func147, Tryz.ntmps147
  go_wp2_with (first | (go_at_call 76; first | ((with_reducible refine (HA.out _).mono ?_); rintro e wn ⟨rfl, rfl⟩) | ((with_reducible refine (HB.out _).mono ?_); rintro e wn ⟨rfl, rfl⟩)) | (go_at_call 44; (with_reducible refine (refWrapN_any _ _).mono ?_); rintro e wn ⟨rfl, rfl⟩) | fail)
  exact bodyPost_ret (v := .tuple #[.int .i64 (wrapN (a * b)), .bool false, .int .i64 0]) (by simp [results, Tryz.results147, go_sem]) rfl ⟨by rw [HE.out], rfl⟩
set_option maxRecDepth 100000 in
set_option maxHeartbeats 4000000 in
theorem rdo6_any (a b : Int) (ha : isNum a = true) (hb : isNum b = true) (w : World) : Calls Tryz.prog 147 #[.int .i64 6, .int .i64 a, .int .i64 b] w fun e w' => e = .returned (.tuple #[.int .i64 (doN 6 a b).1, .bool (doN 6 a b).2, .int .i64 0]) ∧ w' = w := by
  have HA := Lib.hid (show ∀ W, Calls Tryz.prog 76 #[.int .i64 a] W fun e w' => e = .returned (.bool true) ∧ w' = W from fun W => by have := number_any a W; rwa [ha] at this)
  have HB := Lib.hid (show ∀ W, Calls Tryz.prog 76 #[.int .i64 b] W fun e w' => e = .returned (.bool true) ∧ w' = W from fun W => by have := number_any b W; rwa [hb] at this)
  have na := num_yes.1 ha
  have nb := num_yes.1 hb
  have hw := quo_in (b := b) na
  have hw2 := rem_in (b := b) na
  by_cases h0 : b = 0
  · have HE := Lib.hid (show doN 6 a b = (0, true) by unfold doN; rw [if_pos ⟨by decide, h0⟩])
    have d0 : (b == 0) = true := by simpa using h0
    clear ha hb na nb h0
    go_enter Tryz.func147, Tryz.ntmps147
    go_wp2_with (first | (go_at_call 76; first | ((with_reducible refine (HA.out _).mono ?_); rintro e wn ⟨rfl, rfl⟩) | ((with_reducible refine (HB.out _).mono ?_); rintro e wn ⟨rfl, rfl⟩)) | (go_at_call 44; (with_reducible refine (refWrapN_any _ _).mono ?_); rintro e wn ⟨rfl, rfl⟩) | fail)
    exact bodyPost_ret (v := .tuple #[.int .i64 (0), .bool true, .int .i64 0]) (by simp [results, Tryz.results147, go_sem]) rfl ⟨by rw [HE.out], rfl⟩
  have HE := Lib.hid (show doN 6 a b = (wrapN (a.tdiv b), false) by unfold doN; rw [if_neg (fun h => h0 h.2)]; rfl)
  have d0 : (b == 0) = false := by simpa using h0
  clear ha hb na nb
  go_enter Tryz.func147, Tryz.ntmps147
  go_wp2_with (first | (go_at_call 76; first | ((with_reducible refine (HA.out _).mono ?_); rintro e wn ⟨rfl, rfl⟩) | ((with_reducible refine (HB.out _).mono ?_); rintro e wn ⟨rfl, rfl⟩)) | (go_at_call 44; (with_reducible refine (refWrapN_any _ _).mono ?_); rintro e wn ⟨rfl, rfl⟩) | fail)
  exact bodyPost_ret (v := .tuple #[.int .i64 (wrapN (a.tdiv b)), .bool false, .int .i64 0]) (by simp [results, Tryz.results147, go_sem]) rfl ⟨by rw [HE.out], rfl⟩
set_option maxRecDepth 100000 in
set_option maxHeartbeats 4000000 in
theorem rdo7_any (a b : Int) (ha : isNum a = true) (hb : isNum b = true) (w : World) : Calls Tryz.prog 147 #[.int .i64 7, .int .i64 a, .int .i64 b] w fun e w' => e = .returned (.tuple #[.int .i64 (doN 7 a b).1, .bool (doN 7 a b).2, .int .i64 0]) ∧ w' = w := by
  have HA := Lib.hid (show ∀ W, Calls Tryz.prog 76 #[.int .i64 a] W fun e w' => e = .returned (.bool true) ∧ w' = W from fun W => by have := number_any a W; rwa [ha] at this)
  have HB := Lib.hid (show ∀ W, Calls Tryz.prog 76 #[.int .i64 b] W fun e w' => e = .returned (.bool true) ∧ w' = W from fun W => by have := number_any b W; rwa [hb] at this)
  have na := num_yes.1 ha
  have nb := num_yes.1 hb
  have hw := quo_in (b := b) na
  have hw2 := rem_in (b := b) na
  by_cases h0 : b = 0
  · have HE := Lib.hid (show doN 7 a b = (0, true) by unfold doN; rw [if_pos ⟨by decide, h0⟩])
    have d0 : (b == 0) = true := by simpa using h0
    clear ha hb na nb h0
    go_enter Tryz.func147, Tryz.ntmps147
    go_wp2_with (first | (go_at_call 76; first | ((with_reducible refine (HA.out _).mono ?_); rintro e wn ⟨rfl, rfl⟩) | ((with_reducible refine (HB.out _).mono ?_); rintro e wn ⟨rfl, rfl⟩)) | (go_at_call 44; (with_reducible refine (refWrapN_any _ _).mono ?_); rintro e wn ⟨rfl, rfl⟩) | fail)
    exact bodyPost_ret (v := .tuple #[.int .i64 (0), .bool true, .int .i64 0]) (by simp [results, Tryz.results147, go_sem]) rfl ⟨by rw [HE.out], rfl⟩
  have HE := Lib.hid (show doN 7 a b = (wrapN (a.tmod b), false) by unfold doN; rw [if_neg (fun h => h0 h.2)]; rfl)
  have d0 : (b == 0) = false := by simpa using h0
  clear ha hb na nb
  go_enter Tryz.func147, Tryz.ntmps147
  go_wp2_with (first | (go_at_call 76; first | ((with_reducible refine (HA.out _).mono ?_); rintro e wn ⟨rfl, rfl⟩) | ((with_reducible refine (HB.out _).mono ?_); rintro e wn ⟨rfl, rfl⟩)) | (go_at_call 44; (with_reducible refine (refWrapN_any _ _).mono ?_); rintro e wn ⟨rfl, rfl⟩) | fail)
  exact bodyPost_ret (v := .tuple #[.int .i64 (wrapN (a.tmod b)), .bool false, .int .i64 0]) (by simp [results, Tryz.results147, go_sem]) rfl ⟨by rw [HE.out], rfl⟩
set_option maxRecDepth 100000 in
set_option maxHeartbeats 4000000 in
theorem rdo8_any (a b : Int) (ha : isNum a = true) (hb : isNum b = true) (w : World) : Calls Tryz.prog 147 #[.int .i64 8, .int .i64 a, .int .i64 b] w fun e w' => e = .returned (.tuple #[.int .i64 (doN 8 a b).1, .bool (doN 8 a b).2, .int .i64 0]) ∧ w' = w := by
  have HA := Lib.hid (show ∀ W, Calls Tryz.prog 76 #[.int .i64 a] W fun e w' => e = .returned (.bool true) ∧ w' = W from fun W => by have := number_any a W; rwa [ha] at this)
  have HB := Lib.hid (show ∀ W, Calls Tryz.prog 76 #[.int .i64 b] W fun e w' => e = .returned (.bool true) ∧ w' = W from fun W => by have := number_any b W; rwa [hb] at this)
  have na := num_yes.1 ha
  have nb := num_yes.1 hb
  by_cases h : a = b
  · have HE := Lib.hid (show doN 8 a b = (wrapN 1, false) by unfold doN; rw [if_neg (fun h => by omega)]; simp [h])
    have d1 : (a == b) = true := by simpa using h
    clear ha hb na nb h
    go_enter Tryz.func147, Tryz.ntmps147
    go_wp2_with (first | (go_at_call 76; first | ((with_reducible refine (HA.out _).mono ?_); rintro e wn ⟨rfl, rfl⟩) | ((with_reducible refine (HB.out _).mono ?_); rintro e wn ⟨rfl, rfl⟩)) | (go_at_call 44; (with_reducible refine (refWrapN_any _ _).mono ?_); rintro e wn ⟨rfl, rfl⟩) | fail)
    exact bodyPost_ret (v := .tuple #[.int .i64 (wrapN 1), .bool false, .int .i64 0]) (by simp [results, Tryz.results147, go_sem]) rfl ⟨by rw [HE.out], rfl⟩
  · have HE := Lib.hid (show doN 8 a b = (wrapN 0, false) by unfold doN; rw [if_neg (fun h => by omega)]; simp [h])
    have d1 : (a == b) = false := by simpa using h
    clear ha hb na nb h
    go_enter Tryz.func147, Tryz.ntmps147
    go_wp2_with (first | (go_at_call 76; first | ((with_reducible refine (HA.out _).mono ?_); rintro e wn ⟨rfl, rfl⟩) | ((with_reducible refine (HB.out _).mono ?_); rintro e wn ⟨rfl, rfl⟩)) | (go_at_call 44; (with_reducible refine (refWrapN_any _ _).mono ?_); rintro e wn ⟨rfl, rfl⟩) | fail)
    exact bodyPost_ret (v := .tuple #[.int .i64 (wrapN 0), .bool false, .int .i64 0]) (by simp [results, Tryz.results147, go_sem]) rfl ⟨by rw [HE.out], rfl⟩
set_option maxRecDepth 100000 in
set_option maxHeartbeats 4000000 in
theorem rdo9_any (a b : Int) (ha : isNum a = true) (hb : isNum b = true) (w : World) : Calls Tryz.prog 147 #[.int .i64 9, .int .i64 a, .int .i64 b] w fun e w' => e = .returned (.tuple #[.int .i64 (doN 9 a b).1, .bool (doN 9 a b).2, .int .i64 0]) ∧ w' = w := by
  have HA := Lib.hid (show ∀ W, Calls Tryz.prog 76 #[.int .i64 a] W fun e w' => e = .returned (.bool true) ∧ w' = W from fun W => by have := number_any a W; rwa [ha] at this)
  have HB := Lib.hid (show ∀ W, Calls Tryz.prog 76 #[.int .i64 b] W fun e w' => e = .returned (.bool true) ∧ w' = W from fun W => by have := number_any b W; rwa [hb] at this)
  have na := num_yes.1 ha
  have nb := num_yes.1 hb
  by_cases h : a < b
  · have HE := Lib.hid (show doN 9 a b = (wrapN 1, false) by unfold doN; rw [if_neg (fun h => by omega)]; simp [h])
    have d1 : decide (a < b) = true := by simpa using h
    clear ha hb na nb h
    go_enter Tryz.func147, Tryz.ntmps147
    go_wp2_with (first | (go_at_call 76; first | ((with_reducible refine (HA.out _).mono ?_); rintro e wn ⟨rfl, rfl⟩) | ((with_reducible refine (HB.out _).mono ?_); rintro e wn ⟨rfl, rfl⟩)) | (go_at_call 44; (with_reducible refine (refWrapN_any _ _).mono ?_); rintro e wn ⟨rfl, rfl⟩) | fail)
    exact bodyPost_ret (v := .tuple #[.int .i64 (wrapN 1), .bool false, .int .i64 0]) (by simp [results, Tryz.results147, go_sem]) rfl ⟨by rw [HE.out], rfl⟩
  · have HE := Lib.hid (show doN 9 a b = (wrapN 0, false) by unfold doN; rw [if_neg (fun h => by omega)]; simp [h])
    have d1 : decide (a < b) = false := by simpa using h
    clear ha hb na nb h
    go_enter Tryz.func147, Tryz.ntmps147
    go_wp2_with (first | (go_at_call 76; first | ((with_reducible refine (HA.out _).mono ?_); rintro e wn ⟨rfl, rfl⟩) | ((with_reducible refine (HB.out _).mono ?_); rintro e wn ⟨rfl, rfl⟩)) | (go_at_call 44; (with_reducible refine (refWrapN_any _ _).mono ?_); rintro e wn ⟨rfl, rfl⟩) | fail)
    exact bodyPost_ret (v := .tuple #[.int .i64 (wrapN 0), .bool false, .int .i64 0]) (by simp [results, Tryz.results147, go_sem]) rfl ⟨by rw [HE.out], rfl⟩
theorem rdo_any {k : Int} (h3 : 3 ≤ k) (h9 : k ≤ 9) (a b : Int) (ha : isNum a = true) (hb : isNum b = true) (w : World) : Calls Tryz.prog 147 #[.int .i64 k, .int .i64 a, .int .i64 b] w fun e w' => e = .returned (.tuple #[.int .i64 (doN k a b).1, .bool (doN k a b).2, .int .i64 0]) ∧ w' = w := by
  obtain rfl | rfl | rfl | rfl | rfl | rfl | rfl : k = 3 ∨ k = 4 ∨ k = 5 ∨ k = 6 ∨ k = 7 ∨ k = 8 ∨ k = 9 := by omega
  · exact rdo3_any a b ha hb w
  · exact rdo4_any a b ha hb w
  · exact rdo5_any a b ha hb w
  · exact rdo6_any a b ha hb w
  · exact rdo7_any a b ha hb w
  · exact rdo8_any a b ha hb w
  · exact rdo9_any a b ha hb w
end Go.Proofs.YtjghibdlmmjobaaGreatDoor

namespace Go.Proofs.YtjghibdlmmjobaaGreatDoor
open Go.ChangeShapes Go.WideShapes Go.RowKit

def laidList {H : Type} : List (String × DataW H) := [("errors.errorType", Rows.laid_errors_errorType)]
theorem door_own : ownKnob Tryz.prog.godebug = none := by kernel_rfl
theorem door_et : Tryz.prog.globalNamed "errors.errorType" = some 0 := by kernel_rfl
theorem door_rt : (Tryz.prog.cutTypes.find? (·.1 == "internal/reflectlite.rtype")).map (·.2) = some 325 := by kernel_rfl
theorem door_row : ((List.range (467 - 100)).filter fun t => Tryz.prog.rowNamed t [101, 114, 114, 111, 114]) = [271] := by kernel_rfl
theorem door_size : Tryz.prog.types.size = 467 - 100 := by kernel_rfl

theorem glob_of_laid {W : World} (h : laidMetH Tryz.prog laidList W) : Laid W := by
  have h' : laidMet Tryz.prog [] W ∧ handlesMet Tryz.prog laidList W := h
  obtain ⟨name, u, ty, e1, e2, e3, e4, e5⟩ := h'.2 _ (List.mem_singleton.2 rfl)
  have en : name = [101, 114, 114, 111, 114] := (Option.some.inj e1).symm
  subst en
  obtain rfl := Option.some.inj (door_rt.symm.trans e2)
  have hm : ty ∈ (List.range (467 - 100)).filter fun t => Tryz.prog.rowNamed t [101, 114, 114, 111, 114] := List.mem_filter.2 ⟨List.mem_range.2 (by rw [← door_size]; exact e3), e4⟩
  rw [door_row] at hm
  obtain rfl := List.mem_singleton.1 hm
  have hh : typeHandle Tryz.prog 271 = .pointer (some ⟨1, 271, none⟩) := by kernel_rfl
  rw [hh] at e5
  have := World.var?_cell door_et e5 0
  unfold Laid
  simpa using this

noncomputable def laidWorld (os : Os) : World :=
  let w0 := World.holding Tryz.prog os ⟨#[], #[], []⟩
  { w0 with heap := w0.heap.modify 0 fun
      | .cells _ t frozen => .cells #[.iface 325 (.agg #[.pointer (some ⟨1, 271, none⟩)])] t frozen
      | o => o }
theorem laidWorld_met (os : Os) (args : Array Value) : laidMetH Tryz.prog laidList ((laidWorld os).forCall (fun _ _ => 0) ⟨#[], args, []⟩).memory :=
  laidMetH_of_parts (laidMet_nil _ _) (by kernel_rfl)
end Go.Proofs.YtjghibdlmmjobaaGreatDoor

namespace Go.Proofs.YtjghibdlmmjobaaGreatDoor
open Go.RowKit

instance : Inhabited Ins := ⟨⟨0, 0⟩⟩
instance : Inhabited Fn := ⟨⟨0, 0, []⟩⟩
theorem len_one {α : Type} {l : List α} (h : l.length = 1) : ∃ a, l = [a] := by match l, h with | [a], _ => exact ⟨a, rfl⟩
theorem len_two {α : Type} {l : List α} (h : l.length = 2) : ∃ a b, l = [a, b] := by match l, h with | [a, b], _ => exact ⟨a, b, rfl⟩
theorem len_three {α : Type} {l : List α} (h : l.length = 3) : ∃ a b c, l = [a, b, c] := by match l, h with | [a, b, c], _ => exact ⟨a, b, c, rfl⟩
theorem cells_int : Tryz.prog.cellsOf 3 = 1 := by kernel_rfl
theorem cells_ins : Tryz.prog.cellsOf 48 = 2 := by kernel_rfl
theorem cells_func : Tryz.prog.cellsOf 84 = 3 := by kernel_rfl
theorem cells_prog : Tryz.prog.cellsOf 24 = 1 := by kernel_rfl
theorem cells_code : Tryz.prog.cellsOf 49 = 1 := by kernel_rfl
theorem cells_funcs : Tryz.prog.cellsOf 22 = 1 := by kernel_rfl
theorem bytes_ins : Tryz.prog.bytesOf 48 = 16 := by kernel_rfl
theorem bytes_func : Tryz.prog.bytesOf 84 = 40 := by kernel_rfl
theorem laid_out : laidOutB Tryz.prog = true := by kernel_rfl
/-- What a datum weighs is within the reach. -/
def Small {H : Type} (t : TypeId) (d : DataW H) : Prop := ∀ n ∈ d.weights Tryz.prog t, n ≤ reachBytes
section
variable {H : Type} {enc : TypeId × Value → H} {w : World} {base : Nat} {spare : Nat → Bool} {held : Bool}

theorem open_ins {fuel : Nat} {cs : List Value} {x : DataW H × List MemPlace} (h : DataW.trod enc Tryz.prog w base spare held fuel 48 cs = some x) : ∃ a : Ins, cs = insC a := by
  obtain ⟨xs, n, _, _, hl, hxl, hf⟩ := DataW.trod_struct Tryz.underlying48 h
  rw [cells_ins] at hl
  obtain ⟨c0, c1, rfl⟩ := len_two hl
  have hx2 : xs.length = 2 := hxl
  obtain ⟨y0, y1, rfl⟩ := len_two hx2
  have g0 := hf 0 _ rfl
  have g1 := hf 1 _ rfl
  simp [cells_int] at g0 g1
  obtain ⟨n0, e0, _⟩ := DataW.trod_int Tryz.underlying3 g0
  obtain ⟨n1, e1, _⟩ := DataW.trod_int Tryz.underlying3 g1
  simp at e0 e1
  exact ⟨⟨n0, n1⟩, by rw [e0, e1]; rfl⟩
theorem open_code {fuel : Nat} {cs : List Value} {x : DataW H × List MemPlace} (h : DataW.trod enc Tryz.prog w base spare held fuel 49 cs = some x) (hz : Small 49 x.1) :
    ∃ A cap, ∃ xs : List Ins, cs = [.slice A xs.length cap] ∧ ReadsC w A xs ∧ xs.length * 16 ≤ 140737488351232 := by
  rcases Deep.open_slice Tryz.underlying49 h with ⟨hc, _⟩ | ⟨a, len, cap, m, n, D, Pl, hc, hb, hl, hm, hmm, hx1, hx⟩
  · exact ⟨none, 0, [], hc, by simp [ReadsC], by simp⟩
  · have hlm : len ≤ m := by rw [hmm]; split <;> omega
    have hzz : len * 16 ≤ 140737488351232 := by
      have := hz ((len + (m - len)) * 16) (by
        rw [hx1]
        simp [DataW.weights, Tryz.underlying49, bytes_ins])
      unfold reachBytes at this
      omega
    have each : ∀ i, i < len → ∃ b : Ins, ∀ j u, (insC b)[j]? = some u → w.cell? ((a.add (i * 2)).add j) = some u := by
      intro i hi
      obtain ⟨cs', h1, h2⟩ := hx i (by omega)
      rw [cells_ins] at h1
      obtain ⟨b, rfl⟩ := open_ins h2
      obtain ⟨_, hlen, hcell⟩ := World.cells?_some h1
      refine ⟨b, fun j u hj => ?_⟩
      have hj2 : j < 2 := by
        rcases Nat.lt_or_ge j 2 with h4 | h4
        · exact h4
        · rw [List.getElem?_eq_none (by simpa [insC] using h4)] at hj; cases hj
      rw [hcell j hj2]; exact hj
    obtain ⟨f, hf⟩ := Deep.choose_lt each
    refine ⟨some a, cap, (List.range len).map f, by rw [hc]; simp, ⟨by simp; unfold maxLen at hm; omega, fun _ => ⟨a, rfl, fun k hk => ?_⟩⟩, by simpa using hzz⟩
    have hk' : k < len := by simpa using hk
    have e : ((List.range len).map f)[k] = f k := by simp
    rw [e]
    have g := hf k hk'
    refine ⟨by rw [← add_nil (a.add (k * 2))]; exact g 0 _ rfl, ?_⟩
    rw [← add_pos _ 1 (by omega)]; exact g 1 _ rfl
theorem open_func {fuel : Nat} {cs : List Value} {x : DataW H × List MemPlace} (h : DataW.trod enc Tryz.prog w base spare held fuel 84 cs = some x) (hz : Small 84 x.1) :
    ∃ (b : Fn × Option Addr × Nat), cs = fnC b.1 (.slice b.2.1 b.1.code.length b.2.2) ∧ ReadsC w b.2.1 b.1.code ∧ b.1.code.length * 16 ≤ 140737488351232 := by
  obtain ⟨xs, n, _, hx, hl, hxl, hf⟩ := DataW.trod_struct Tryz.underlying84 h
  rw [cells_func] at hl
  obtain ⟨c0, c1, c2, rfl⟩ := len_three hl
  have hx3 : xs.length = 3 := hxl
  obtain ⟨y0, y1, y2, rfl⟩ := len_three hx3
  have g0 := hf 0 _ rfl
  have g1 := hf 1 _ rfl
  have g2 := hf 2 _ rfl
  simp [cells_int, cells_code] at g0 g1 g2
  obtain ⟨n0, e0, _⟩ := DataW.trod_int Tryz.underlying3 g0
  obtain ⟨n1, e1, _⟩ := DataW.trod_int Tryz.underlying3 g1
  obtain ⟨A, cap, code, e2, hr, hz2⟩ := open_code g2 (fun n hn => hz n (by
    rw [hx]
    simp only [DataW.weights, Tryz.underlying84]
    exact DataW.weights_mem_each (j := 2) rfl rfl n hn))
  simp at e0 e1 e2
  exact ⟨(⟨n0, n1, code⟩, A, cap), by rw [e0, e1, e2]; rfl, hr, hz2⟩
theorem weights_all {t : TypeId} : ∀ {l : List (DataW H)} {d : DataW H}, d ∈ l → ∀ n ∈ d.weights Tryz.prog t, n ∈ DataW.weightsAll Tryz.prog t l
  | x :: l, d, h, n, hn => by
    simp only [DataW.weightsAll, List.mem_append]
    rcases List.mem_cons.1 h with rfl | h
    · exact .inl hn
    · exact .inr (weights_all h n hn)
theorem open_funcs {fuel : Nat} {cs : List Value} {x : DataW H × List MemPlace} (h : DataW.trod enc Tryz.prog w base spare held fuel 22 cs = some x) (hz : Small 22 x.1) :
    ∃ A cap, ∃ p : List Fn, cs = [.slice A p.length cap] ∧ ReadsF w A p ∧ Fits p := by
  rcases Deep.open_slice Tryz.underlying22 h with ⟨hc, _⟩ | ⟨a, len, cap, m, n, D, Pl, hc, hb, hl, hm, hmm, hx1, hx⟩
  · exact ⟨none, 0, [], hc, by simp [ReadsF], by simp [Fits]⟩
  · have hlm : len ≤ m := by rw [hmm]; split <;> omega
    have hzz : len * 40 ≤ 140737488351232 := by
      have := hz ((len + (m - len)) * 40) (by
        rw [hx1]
        simp [DataW.weights, Tryz.underlying22, bytes_func])
      unfold reachBytes at this
      omega
    have each : ∀ i, i < len → ∃ b : Fn × Option Addr × Nat, (∀ j u, (fnC b.1 (.slice b.2.1 b.1.code.length b.2.2))[j]? = some u → w.cell? ((a.add (i * 3)).add j) = some u) ∧ ReadsC w b.2.1 b.1.code ∧ b.1.code.length * 16 ≤ 140737488351232 := by
      intro i hi
      obtain ⟨cs', h1, h2⟩ := hx i (by omega)
      rw [cells_func] at h1
      obtain ⟨b, rfl, hr, hzf⟩ := open_func h2 (fun n hn => hz n (by
        rw [hx1]
        simp only [DataW.weights, Tryz.underlying22]
        exact List.mem_cons_of_mem _ (List.mem_append_left _ (weights_all (List.mem_map.2 ⟨i, List.mem_range.2 hi, rfl⟩) n hn))))
      obtain ⟨_, hlen, hcell⟩ := World.cells?_some h1
      refine ⟨b, fun j u hj => ?_, hr, hzf⟩
      have hj3 : j < 3 := by
        rcases Nat.lt_or_ge j 3 with h4 | h4
        · exact h4
        · rw [List.getElem?_eq_none (by simpa [fnC] using h4)] at hj; cases hj
      rw [hcell j hj3]; exact hj
    obtain ⟨f, hf⟩ := Deep.choose_lt each
    refine ⟨some a, cap, (List.range len).map (fun i => (f i).1), by rw [hc]; simp, ⟨by simp; unfold maxLen at hm; omega, fun _ => ⟨a, rfl, fun k hk => ?_⟩⟩, by simpa using hzz, fun g hg => ?_⟩
    · have hk' : k < len := by simpa using hk
      have e : ((List.range len).map (fun i => (f i).1))[k] = (f k).1 := by simp
      rw [e]
      obtain ⟨g, hr, _⟩ := hf k hk'
      refine ⟨by rw [← add_nil (a.add (k * 3))]; exact g 0 _ rfl, ?_, (f k).2.1, (f k).2.2, ?_, hr⟩
      · rw [← add_pos _ 1 (by omega)]; exact g 1 _ rfl
      · rw [← add_pos _ 2 (by omega)]; exact g 2 _ rfl
    · obtain ⟨i, hi, rfl⟩ := List.mem_map.1 hg
      exact (hf i (List.mem_range.1 hi)).2.2
theorem open_prog {fuel : Nat} {cs : List Value} {x : DataW H × List MemPlace} (h : DataW.trod enc Tryz.prog w base spare held fuel 24 cs = some x) (hz : Small 24 x.1) :
    ∃ A cap, ∃ p : List Fn, cs = [.slice A p.length cap] ∧ ReadsF w A p ∧ Fits p := by
  obtain ⟨xs, n, _, hx, hl, hxl, hf⟩ := DataW.trod_struct Tryz.underlying24 h
  rw [cells_prog] at hl
  obtain ⟨c0, rfl⟩ := len_one hl
  have hx1 : xs.length = 1 := hxl
  obtain ⟨y0, rfl⟩ := len_one hx1
  have g0 := hf 0 _ rfl
  simp [cells_funcs] at g0
  exact open_funcs g0 (fun n hn => hz n (by
    rw [hx]
    simp only [DataW.weights, Tryz.underlying24]
    exact DataW.weights_mem_each (j := 0) rfl rfl n hn))
end
end Go.Proofs.YtjghibdlmmjobaaGreatDoor
