/- What comes next of a pc: the program's 'next' and the document's. Conditions: the function lies in memory as it is said. -/
import Derived.Test.YtpfgklkdldkajaaDoorRefCode
import Derived.Test.YtpfgklkdldkajaaDoorOwn
namespace Go.Proofs.YtpfgklkdldkajaaDoor
open Go.RowKit

/-- The first that is not below L; -1: there is none. -/
def idxI (L : Nat) (xs : List Int) : Int := match xs.findIdx? (fun x => decide ((L : Int) ≤ x)) with | some k => k | none => -1
theorem idxI_none {L : Nat} {xs : List Int} (k : Nat) (hk : xs.length ≤ k) (h : ∀ j (hj : j < xs.length), j < k → decide ((L : Int) ≤ xs[j]) = false) : idxI L xs = -1 := by
  have : xs.findIdx? (fun x => decide ((L : Int) ≤ x)) = none := by
    rw [List.findIdx?_eq_none_iff]
    intro x hx
    obtain ⟨j, hj, rfl⟩ := List.mem_iff_getElem.1 hx
    exact h j hj (by omega)
  unfold idxI; rw [this]
theorem idxI_some {L : Nat} {xs : List Int} (k : Nat) (hk : k < xs.length) (h : ∀ j (hj : j < xs.length), j < k → decide ((L : Int) ≤ xs[j]) = false) (he : decide ((L : Int) ≤ xs[k]) = true) : idxI L xs = k := by
  have : xs.findIdx? (fun x => decide ((L : Int) ≤ x)) = some k := by
    rw [List.findIdx?_eq_some_iff_getElem]
    exact ⟨hk, he, fun j hj => by simp [h j (by omega) hj]⟩
  unfold idxI; rw [this]
set_option maxRecDepth 100000 in
set_option maxHeartbeats 1000000 in
theorem indexI_any (P F : Addr) (f : Fn) (A : Option Addr) (c : Nat) (B : Option Addr) (d : Nat) (xs : List Int) (w : World) (hP : w.cell? P = some (.pointer (some F))) (hF : FnAt w F f A c) (hr : ReadsI w B xs) :
    Calls Tryd.prog 117 #[.slice B xs.length d, .func (.func 97) #[] #[.pointer (some P)]] w fun e w' => e = .returned (.int .i64 (idxI f.code.length xs)) ∧ w' = w := by
  have HR := Lib.hid hr
  have hn : xs.length ≤ 9223372036854775807 := hr.1
  have c2 := hF.c2
  clear hr hF
  go_enter Tryd.func117, Tryd.ntmps117
  go_wp2
  go_loopw [5, 8] (fun _ i wr => ∃ k : Nat, k ≤ xs.length ∧ i = .int .i64 k ∧ (∀ j (hj : j < xs.length), j < k → decide ((f.code.length : Int) ≤ xs[j]) = false) ∧ wr = w) (fun _ i _ => xs.length - (intOf i).toNat)
  case atStart => exact ⟨0, Nat.zero_le _, rfl, fun _ _ h => absurd h (Nat.not_lt_zero _), rfl⟩
  case round =>
    obtain ⟨k, hk, rfl, hv, rfl⟩ := hrel
    have HV := Lib.hid hv
    clear hv
    by_cases hlt : k < xs.length
    · obtain ⟨ad, rfl, c0⟩ := HR.out.at_ hlt
      by_cases hm : (f.code.length : Int) ≤ xs[k]
      · have dm : decide ((f.code.length : Int) ≤ xs[k]) = true := by simpa using hm
        go_wp2
        go_ret
        exact ⟨ret_int (idxI_some k hlt HV.out dm).symm, rfl⟩
      · have dm : decide ((f.code.length : Int) ≤ xs[k]) = false := by simpa using hm
        go_wp2
        go_roundw
        case rel => exact ⟨k + 1, by omega, by go_num, fun j hj h => by
          rcases Nat.lt_or_ge j k with h2 | h2
          · exact HV.out j hj h2
          · obtain rfl : j = k := by omega
            exact dm, by trivial⟩
        case measure => simp only [intOf]; omega
    · go_wp2
      go_ret
      exact ⟨ret_int (idxI_none k (by omega) HV.out).symm, rfl⟩

theorem del_same (P F : Addr) (f : Fn) (A : Option Addr) (c : Nat) (B : Option Addr) (d : Nat) (xs : List Int) (w : World) (hP : w.cell? P = some (.pointer (some F))) (hF : FnAt w F f A c) (hr : ReadsI w B xs) (hi : idxI f.code.length xs = -1) :
    Calls Tryd.prog 99 #[.slice B xs.length d, .func (.func 97) #[] #[.pointer (some P)]] w fun e w' => e = .returned (.slice B xs.length d) ∧ w' = w := by
  have HI := Lib.hid (indexI_any P F f A c B d xs w hP hF hr)
  rw [hi] at HI
  clear hP hF hr hi
  go_enter Tryd.func99, Tryd.ntmps99
  go_wp2_with fail
  refine HI.out.mono ?_
  rintro e w1 ⟨rfl, rfl⟩
  go_wp2
  go_ret
  exact ⟨rfl, rfl⟩
/-- What is left of a row of the call's own, in its place. -/
def Left (b d : Nat) (r : List Int) (w : World) (e : Ending) (w' : World) : Prop := e = .returned (.slice (some ⟨b, 0, none⟩) r.length d) ∧ (∃ vs, RowAt 3 b (intsV r ++ vs) w') ∧ Keeps b w w'
set_option maxRecDepth 100000 in
set_option maxHeartbeats 1000000 in
theorem del_one (P F : Addr) (f : Fn) (A : Option Addr) (c : Nat) (b : Nat) (x : Int) (w : World) (hP : w.cell? P = some (.pointer (some F))) (hF : FnAt w F f A c) (hb : RowAt 3 b (intsV [x]) w) (hx : (f.code.length : Int) ≤ x) :
    Calls Tryd.prog 99 #[.slice (some ⟨b, 0, none⟩) 1 1, .func (.func 97) #[] #[.pointer (some P)]] w (Left b 1 [] w) := by
  have hr : ReadsI w (some ⟨b, 0, none⟩) [x] := ints_reads (vs := []) (by simpa using hb) (by simp)
  have HI := Lib.hid (indexI_any P F f A c _ 1 [x] w hP hF hr)
  have c2 := hF.c2
  have hi : idxI f.code.length [x] = 0 := by simp [idxI, List.findIdx?_cons, hx]
  rw [hi] at HI
  have hc := clear_ints w b 0 1 1 (by omega) (fun j hj => by
    rw [hb.cell (by simp [intsV]; omega)]; rfl) (fun j _ => hb.free _)
  have hp := hb.put 0 (.int .i64 0)
  clear hr hF
  go_enter Tryd.func99, Tryd.ntmps99
  go_wp2_with fail
  refine HI.out.mono ?_
  rintro e w1 ⟨rfl, rfl⟩
  go_wp2_with fail
  refine wp_loop_rounds 1 ?_
  rw [rounds_succ]
  go_wp2
  go_ret
  exact ⟨rfl, ⟨[.int .i64 0], hp⟩, Keeps.put (Keeps.refl _ _) _ _⟩
set_option maxRecDepth 100000 in
set_option maxHeartbeats 1000000 in
theorem del_second (P F : Addr) (f : Fn) (A : Option Addr) (c : Nat) (b : Nat) (x y : Int) (w : World) (hP : w.cell? P = some (.pointer (some F))) (hF : FnAt w F f A c) (hb : RowAt 3 b (intsV [x, y]) w) (hx : ¬ (f.code.length : Int) ≤ x) (hy : (f.code.length : Int) ≤ y) :
    Calls Tryd.prog 99 #[.slice (some ⟨b, 0, none⟩) 2 2, .func (.func 97) #[] #[.pointer (some P)]] w (Left b 2 [x] w) := by
  have hr : ReadsI w (some ⟨b, 0, none⟩) [x, y] := ints_reads (vs := []) (by simpa using hb) (by simp)
  have HI := Lib.hid (indexI_any P F f A c _ 2 [x, y] w hP hF hr)
  have c2 := hF.c2
  have hi : idxI f.code.length [x, y] = 1 := by simp [idxI, List.findIdx?_cons, hx, hy]
  rw [hi] at HI
  have hc := clear_ints w b 1 1 1 (by omega) (fun j hj => by
    rw [hb.cell (by simp [intsV]; omega)]; rfl) (fun j _ => hb.free _)
  have hp := hb.put 1 (.int .i64 0)
  clear hr hF
  go_enter Tryd.func99, Tryd.ntmps99
  go_wp2_with fail
  refine HI.out.mono ?_
  rintro e w1 ⟨rfl, rfl⟩
  go_wp2_with fail
  refine wp_loop_rounds 1 ?_
  rw [rounds_succ]
  go_wp2
  go_ret
  exact ⟨rfl, ⟨[.int .i64 0], hp⟩, Keeps.put (Keeps.refl _ _) _ _⟩
set_option maxRecDepth 100000 in
set_option maxHeartbeats 1000000 in
theorem del_first (P F : Addr) (f : Fn) (A : Option Addr) (c : Nat) (b : Nat) (x y : Int) (w : World) (hP : w.cell? P = some (.pointer (some F))) (hF : FnAt w F f A c) (hb : RowAt 3 b (intsV [x, y]) w) (hx : (f.code.length : Int) ≤ x) (hy : ¬ (f.code.length : Int) ≤ y) :
    Calls Tryd.prog 99 #[.slice (some ⟨b, 0, none⟩) 2 2, .func (.func 97) #[] #[.pointer (some P)]] w (Left b 2 [y] w) := by
  have hr : ReadsI w (some ⟨b, 0, none⟩) [x, y] := ints_reads (vs := []) (by simpa using hb) (by simp)
  have HI := Lib.hid (indexI_any P F f A c _ 2 [x, y] w hP hF hr)
  have c2 := hF.c2
  have hi : idxI f.code.length [x, y] = 0 := by simp [idxI, List.findIdx?_cons, hx]
  rw [hi] at HI
  have dy : decide ((f.code.length : Int) ≤ y) = false := by simpa using hy
  have e1 := ints_cell hb (k := 1) (by simp)
  have e0 := ints_cell hb (k := 0) (by simp)
  have f0 := hb.free 0
  have hb2 := hb.put 0 (.int .i64 y)
  have hc := clear_ints (w.setCell ⟨b, 0, none⟩ (.int .i64 y)) b 1 1 1 (by omega) (fun j hj => by
    rw [hb2.cell (by simp [intsV]; omega)]; rfl) (fun j _ => hb2.free _)
  have hp := hb2.put 1 (.int .i64 0)
  clear hr hF
  go_enter Tryd.func99, Tryd.ntmps99
  go_wp2_with fail
  refine HI.out.mono ?_
  rintro e w1 ⟨rfl, rfl⟩
  go_wp2_with fail
  refine wp_loop_rounds 2 ?_
  rw [rounds_succ]
  go_wp2
  rw [rounds_succ]
  go_wp2
  go_ret
  exact ⟨rfl, ⟨[.int .i64 0], hp⟩, Keeps.put (Keeps.put (Keeps.refl _ _) _ _) _ _⟩
set_option maxRecDepth 100000 in
set_option maxHeartbeats 1000000 in
theorem del_both (P F : Addr) (f : Fn) (A : Option Addr) (c : Nat) (b : Nat) (x y : Int) (w : World) (hP : w.cell? P = some (.pointer (some F))) (hF : FnAt w F f A c) (hb : RowAt 3 b (intsV [x, y]) w) (hx : (f.code.length : Int) ≤ x) (hy : (f.code.length : Int) ≤ y) :
    Calls Tryd.prog 99 #[.slice (some ⟨b, 0, none⟩) 2 2, .func (.func 97) #[] #[.pointer (some P)]] w (Left b 2 [] w) := by
  have hr : ReadsI w (some ⟨b, 0, none⟩) [x, y] := ints_reads (vs := []) (by simpa using hb) (by simp)
  have HI := Lib.hid (indexI_any P F f A c _ 2 [x, y] w hP hF hr)
  have c2 := hF.c2
  have hi : idxI f.code.length [x, y] = 0 := by simp [idxI, List.findIdx?_cons, hx]
  rw [hi] at HI
  have dy : decide ((f.code.length : Int) ≤ y) = true := by simpa using hy
  have e1 := ints_cell hb (k := 1) (by simp)
  have hc := clear_ints w b 0 2 2 (by omega) (fun j hj => by
    rw [hb.cell (by simp [intsV]; omega)]; rfl) (fun j _ => hb.free _)
  have hp := (hb.put 0 (.int .i64 0)).put 1 (.int .i64 0)
  clear hr hF
  go_enter Tryd.func99, Tryd.ntmps99
  go_wp2_with fail
  refine HI.out.mono ?_
  rintro e w1 ⟨rfl, rfl⟩
  go_wp2_with fail
  refine wp_loop_rounds 2 ?_
  rw [rounds_succ]
  go_wp2
  rw [rounds_succ]
  go_wp2
  go_ret
  exact ⟨rfl, ⟨[.int .i64 0, .int .i64 0], hp⟩, Keeps.put (Keeps.put (Keeps.refl _ _) _ _) _ _⟩

theorem comp_short (B : Option Addr) (n d : Nat) (w : World) (h : n < 2) : Calls Tryd.prog 98 #[.slice B n d] w fun e w' => e = .returned (.slice B n d) ∧ w' = w := by
  go_enter Tryd.func98, Tryd.ntmps98
  go_wp2
  go_ret
  exact ⟨rfl, rfl⟩
set_option maxRecDepth 100000 in
set_option maxHeartbeats 1000000 in
theorem comp_diff (b : Nat) (x y : Int) (w : World) (hb : RowAt 3 b (intsV [x, y]) w) (hxy : x ≠ y) : Calls Tryd.prog 98 #[.slice (some ⟨b, 0, none⟩) 2 2] w fun e w' => e = .returned (.slice (some ⟨b, 0, none⟩) 2 2) ∧ Below w.heap.size w w' := by
  have e0 := ints_cell hb (k := 0) (by simp)
  have e1 := ints_cell hb (k := 1) (by simp)
  have dx : (y == x) = false := by simpa using Ne.symm hxy
  go_enter Tryd.func98, Tryd.ntmps98
  go_wp2_with fail
  refine wp_loop_rounds 2 ?_
  rw [rounds_succ]
  go_wp2_with fail
  go_quiet (fail)
  go_wp2_with fail
  rw [rounds_succ]
  go_wp2_with fail
  go_ret
  exact ⟨rfl, below_drew (Below.refl _ _) _⟩
set_option maxRecDepth 100000 in
set_option maxHeartbeats 1000000 in
theorem comp_same (b : Nat) (x : Int) (w : World) (hb : RowAt 3 b (intsV [x, x]) w) : Calls Tryd.prog 98 #[.slice (some ⟨b, 0, none⟩) 2 2] w (Left b 2 [x] w) := by
  have e0 := ints_cell hb (k := 0) (by simp)
  have e1 := ints_cell hb (k := 1) (by simp)
  have dx : (x == x) = true := by simp
  have hc (n : Nat) := clear_ints (w.drewN n) b 1 1 1 (by omega) (fun j hj => by
    show (w.cell? _).isSome = true
    rw [hb.cell (by simp [intsV]; omega)]; rfl) (fun j _ => hb.free _)
  have hp (n : Nat) : RowAt 3 b _ ((w.drewN n).setCell ⟨b, 1, none⟩ (.int .i64 0)) := RowAt.put (w := w.drewN n) hb 1 (.int .i64 0)
  go_enter Tryd.func98, Tryd.ntmps98
  go_wp2_with fail
  refine wp_loop_rounds 1 ?_
  rw [rounds_succ]
  go_wp2_with fail
  go_quiet (fail)
  go_wp2_with fail
  refine wp_loop_rounds 1 ?_
  rw [rounds_succ]
  go_wp2_with fail
  go_ret
  exact ⟨rfl, ⟨[.int .i64 0], hp _⟩, Keeps.put ((Keeps.refl _ _).drewN _) _ _⟩
end Go.Proofs.YtpfgklkdldkajaaDoor
