/- What 'verify' asks without heights: 'outside', 'args', 'plain' and the document's 'ranged'. Conditions: the program, the function, the marks lie in memory as they are said. slices.Repeat of one number, walked (math/bits.Mul too). Conditions: at most a hundred times; the row of one number is the call's own. The document's 'Next', at a pc that there is, of code that may be: the same list. Conditions: the function's code lies in memory as it is said. -/
import Derived.Test.YtjghibdlmmjobaaGreatDoorGZ04
import Derived.Test.YtjghibdlmmjobaaGreatDoorGZ05
import Derived.Lib.Mul64
import Derived.Laws.Bits64b
import Derived.Laws.CopyOwn
import Derived.Deep.RegionLaw
import Derived.Deep.Cut
namespace Go.Proofs.YtjghibdlmmjobaaGreatDoor
open Go.RowKit

theorem dle (a b : Int) : decide (b ≤ a) = !decide (a < b) := by by_cases h : a < b <;> simp [h] <;> omega
set_option maxRecDepth 100000 in
set_option maxHeartbeats 1000000 in
theorem outside_any (P F : Addr) (p : List Fn) (Ap : Option Addr) (cp : Nat) (f : Fn) (A : Option Addr) (c : Nat) (x : Ins) (w : World) (hP : w.cell? P = some (.slice Ap p.length cp)) (hF : FnAt w F f A c) :
    Calls Tryz.prog 215 #[.pointer (some P), .pointer (some F), x.v] w (Ret (.bool (!rangedB p f x)) w) := by
  obtain ⟨k, a⟩ := x
  have b1 : Below w.heap.size w (w.alloc (.cells #[.int .i64 k, .int .i64 a] 48)) := below_alloc (Below.refl _ _) _
  have h2 := hF.below b1
  have c1 := h2.c1
  have c2 := h2.c2
  have c3 := (b1.cell (World.block_lt_of_cell? w _ hP)).trans hP
  have HB := Lib.hid b1
  clear h2 hF hP b1
  unfold Ins.v
  by_cases k1 : k = 1
  · subst k1
    go_enter Tryz.func215, Tryz.ntmps215
    go_wp2_with fail
    go_quiet (fail)
    go_wp2_with fail
    go_ret
    exact ⟨ret_bool (by unfold rangedB; simp; exact dle _ _), below_drew HB.out _⟩
  have d1 : (k == 1) = false := by simpa using k1
  by_cases k2 : k = 2
  · subst k2
    go_enter Tryz.func215, Tryz.ntmps215
    go_wp2_with fail
    go_quiet (fail)
    go_wp2_with fail
    go_ret
    exact ⟨ret_bool (by unfold rangedB; simp; exact dle _ _), below_drew HB.out _⟩
  have d2 : (k == 2) = false := by simpa using k2
  by_cases k12 : k = 12
  · subst k12
    go_enter Tryz.func215, Tryz.ntmps215
    go_wp2_with fail
    go_quiet (fail)
    go_wp2_with fail
    go_ret
    exact ⟨ret_bool (by unfold rangedB; simp; exact dle _ _), below_drew HB.out _⟩
  have d12 : (k == 12) = false := by simpa using k12
  by_cases k13 : k = 13
  · subst k13
    go_enter Tryz.func215, Tryz.ntmps215
    go_wp2_with fail
    go_quiet (fail)
    go_wp2_with fail
    go_ret
    exact ⟨ret_bool (by unfold rangedB; simp; exact dle _ _), below_drew HB.out _⟩
  have d13 : (k == 13) = false := by simpa using k13
  by_cases k14 : k = 14
  · subst k14
    go_enter Tryz.func215, Tryz.ntmps215
    go_wp2_with fail
    go_quiet (fail)
    go_wp2_with fail
    go_ret
    exact ⟨ret_bool (by unfold rangedB; simp; exact dle _ _), below_drew HB.out _⟩
  have d14 : (k == 14) = false := by simpa using k14
  go_enter Tryz.func215, Tryz.ntmps215
  go_wp2_with fail
  go_ret
  exact ⟨ret_bool (by unfold rangedB; simp [k1, k2, k12, k13, k14]), HB.out⟩
set_option maxRecDepth 100000 in
set_option maxHeartbeats 1000000 in
theorem args_any (P : Addr) (p : List Fn) (Ap : Option Addr) (cp : Nat) (x : Ins) (w : World) (hP : w.cell? P = some (.slice Ap p.length cp)) (hr : ReadsF w Ap p) (hx : x.kind = 14 → 0 ≤ x.a ∧ x.a < p.length) :
    Calls Tryz.prog 218 #[.pointer (some P), x.v] w (Ret (.int .i64 (argsOf p x)) w) := by
  obtain ⟨k, a⟩ := x
  have b1 : Below w.heap.size w (w.alloc (.cells #[.int .i64 k, .int .i64 a] 48)) := below_alloc (Below.refl _ _) _
  have c3 := (b1.cell (World.block_lt_of_cell? w _ hP)).trans hP
  have HB := Lib.hid b1
  have HR := Lib.hid hr
  clear hr hP b1
  unfold Ins.v
  by_cases k14 : k = 14
  · subst k14
    obtain ⟨h0, hl⟩ := hx rfl
    obtain ⟨n, rfl⟩ := Int.eq_ofNat_of_zero_le h0
    have hn : n < p.length := by simpa using hl
    obtain ⟨ad, rfl, e0, e1, _⟩ := HR.out.at_ HB.out hn
    have ea : argsOf p ⟨14, n⟩ = p[n].args := by unfold argsOf; simp [hn]
    rw [ea]
    clear hl h0 hx ea
    go_enter Tryz.func218, Tryz.ntmps218
    go_wp2_with fail
    go_quiet (fail)
    go_wp2_with fail
    go_ret
    exact ⟨rfl, below_drew HB.out _⟩
  have d14 : (k == 14) = false := by simpa using k14
  have ea : argsOf p ⟨k, a⟩ = 0 := by unfold argsOf; rw [if_neg k14]
  rw [ea]
  go_enter Tryz.func218, Tryz.ntmps218
  go_wp2_with fail
  go_ret
  exact ⟨rfl, HB.out⟩
set_option maxRecDepth 100000 in
set_option maxHeartbeats 1000000 in
theorem ranged_any (p : List Fn) (Ap : Option Addr) (cp : Nat) (f : Fn) (A : Option Addr) (c : Nat) (x : Ins) (w : World) :
    Calls Tryz.prog 168 #[.agg #[.slice Ap p.length cp], fnV f A c, x.v] w (Ret (.bool (rangedB p f x)) w) := by
  obtain ⟨k, a⟩ := x
  have b1 : Below w.heap.size w (((w.alloc (.cells #[.slice Ap p.length cp] 24)).alloc (.cells #[.int .i64 f.args, .int .i64 f.locals, .slice A f.code.length c] 84)).alloc (.cells #[.int .i64 k, .int .i64 a] 48)) := below_alloc (below_alloc (below_alloc (Below.refl _ _) _) _) _
  have HB := Lib.hid b1
  clear b1
  unfold Ins.v fnV
  by_cases k1 : k = 1
  · subst k1
    go_enter Tryz.func168, Tryz.ntmps168
    go_wp2_with fail
    go_ret
    exact ⟨ret_bool (by unfold rangedB; simp), HB.out⟩
  have d1 : (k == 1) = false := by simpa using k1
  by_cases k2 : k = 2
  · subst k2
    go_enter Tryz.func168, Tryz.ntmps168
    go_wp2_with fail
    go_ret
    exact ⟨ret_bool (by unfold rangedB; simp), HB.out⟩
  have d2 : (k == 2) = false := by simpa using k2
  by_cases k12 : k = 12
  · subst k12
    go_enter Tryz.func168, Tryz.ntmps168
    go_wp2_with fail
    go_ret
    exact ⟨ret_bool (by unfold rangedB; simp), HB.out⟩
  have d12 : (k == 12) = false := by simpa using k12
  by_cases k13 : k = 13
  · subst k13
    go_enter Tryz.func168, Tryz.ntmps168
    go_wp2_with fail
    go_ret
    exact ⟨ret_bool (by unfold rangedB; simp), HB.out⟩
  have d13 : (k == 13) = false := by simpa using k13
  by_cases k14 : k = 14
  · subst k14
    go_enter Tryz.func168, Tryz.ntmps168
    go_wp2_with fail
    go_ret
    exact ⟨ret_bool (by unfold rangedB; simp), HB.out⟩
  have d14 : (k == 14) = false := by simpa using k14
  go_enter Tryz.func168, Tryz.ntmps168
  go_wp2_with fail
  go_ret
  exact ⟨ret_bool (by unfold rangedB; simp [k1, k2, k12, k13, k14]), HB.out⟩
theorem find_range {n i : Nat} {q : Nat → Bool} (hi : i < n) (hq : q i = true) (h : ∀ j, j < i → q j = false) : (List.range n).find? q = some i := by
  rw [List.find?_range_eq_some]
  exact ⟨hq, by simpa using hi, fun j hj => by simp [h j hj]⟩
theorem find_none {n : Nat} {q : Nat → Bool} (h : ∀ j, j < n → q j = false) : (List.range n).find? q = none := by
  rw [List.find?_eq_none]
  intro x hx
  have := h x (by simpa using hx)
  simp [this]
/-- An error, or none. -/
def ErrO (w : World) (v : Value) (o : Option (Int × Int)) : Prop := match o with
  | none => v = .nilIface
  | some e => ∃ m : Addr, v = .iface 291 (.pointer (some m)) ∧ w.cell? m = some (.int .i64 e.1) ∧ w.cell? ⟨m.block, m.off + 1, none⟩ = some (.iface 30 (.int .i64 e.2))
/-- A call that answers an error, or none. -/
def Errs (o : Option (Int × Int)) (w : World) (e : Ending) (w' : World) : Prop := ∃ v, e = .returned v ∧ ErrO w' v o ∧ Below w.heap.size w w'
theorem fault_new (w : World) (a b : Int) : ErrO (w.alloc (.cells #[.int .i64 a, .iface 30 (.int .i64 b)] 293)) (.iface 291 (.pointer (some ⟨w.heap.size, 0, none⟩))) (some (a, b)) :=
  ⟨_, rfl, (blk_cell (blk_new w _) 0).trans rfl, (blk_cell (blk_new w _) 1).trans rfl⟩
set_option maxRecDepth 100000 in
set_option maxHeartbeats 4000000 in
theorem plain_any (P F : Addr) (p : List Fn) (Ap : Option Addr) (cp : Nat) (f : Fn) (A : Option Addr) (c g : Nat) (w : World) (hP : w.cell? P = some (.slice Ap p.length cp)) (hF : FnAt w F f A c) (hm : codeMay f.code = true)
    (hR : RowAt 4 g (boolsV (reachL f.code)) w) : Calls Tryz.prog 199 #[.pointer (some P), .pointer (some F), .slice (some ⟨g, 0, none⟩) f.code.length f.code.length] w (Errs (plainOf p f) w) := by
  have HP := Lib.hid hP
  have HF := Lib.hid hF
  have HR := Lib.hid hR
  have hl := reachL_len hm
  have HL := Lib.hid hl
  obtain ⟨h1, h64⟩ := codeMay_len hm
  have c2 := hF.c2
  clear hP hF hR hl hm
  go_enter Tryz.func199, Tryz.ntmps199
  go_wp2_with fail
  go_loopw [16] (fun i wr => ∃ k : Nat, k ≤ f.code.length ∧ i = .int .i64 k ∧ (∀ j, j < k → badAt p f j = false) ∧ Below w.heap.size w wr) (fun i _ => f.code.length - (intOf i).toNat)
  case atStart => exact ⟨0, Nat.zero_le _, rfl, fun _ h => absurd h (Nat.not_lt_zero _), Below.refl _ _⟩
  case round =>
    obtain ⟨k, hk, rfl, hv, hB⟩ := hrel
    have HV := Lib.hid hv
    have HB := Lib.hid hB
    clear hv hB c2
    by_cases hlt : k < f.code.length
    · obtain ⟨ad, rfl, c0, c1⟩ := HF.out.r.at_ HB.out hlt
      have hlr : k < (reachL f.code).length := by rw [HL.out]; exact hlt
      have b1 : Below wr.heap.size wr (wr.alloc (.cells #[.int .i64 f.code[k].kind, .int .i64 f.code[k].a] 48)) := below_alloc (Below.refl _ _) _
      have HB1 := Lib.hid (below_trans HB.out b1)
      have cm := bools_cell (HR.out.below HB1.out) hlr
      have HO := Lib.hid (outside_any P F p Ap cp f _ c f.code[k] _ ((HB1.out.cell (World.block_lt_of_cell? w _ HP.out)).trans HP.out) (HF.out.below HB1.out))
      clear b1
      unfold Ins.v at HO
      cases hb : (reachL f.code)[k] with
      | false =>
        rw [hb] at cm
        have hbad : badAt p f k = false := by unfold badAt; rw [List.getElem?_eq_getElem hlr, hb]; rfl
        have HX := Lib.hid hbad
        clear hbad hb hlr
        go_wp2_with fail
        go_roundw
        case rel => exact ⟨k + 1, by omega, by go_num, fun j hj => by
          rcases Nat.lt_or_ge j k with h2 | h2
          · exact HV.out j h2
          · obtain rfl : j = k := by omega
            exact HX.out, HB1.out⟩
        case measure => simp only [intOf]; omega
      | true =>
        rw [hb] at cm
        have hbad : badAt p f k = !rangedB p f f.code[k] := by unfold badAt; rw [List.getElem?_eq_getElem hlr, hb, List.getElem?_eq_getElem hlt]; rfl
        cases hr : rangedB p f f.code[k] with
        | true =>
          rw [hr] at hbad HO
          have HX := Lib.hid hbad
          clear hbad hb hlr hr
          go_wp2_with (go_at_call 215; refine HO.out.mono ?_; rintro e w2 ⟨rfl, hB2⟩)
          have HB3 := Lib.hid (below_trans HB1.out hB2)
          go_roundw
          case rel => exact ⟨k + 1, by omega, by go_num, fun j hj => by
            rcases Nat.lt_or_ge j k with h2 | h2
            · exact HV.out j h2
            · obtain rfl : j = k := by omega
              exact HX.out, HB3.out⟩
          case measure => simp only [intOf]; omega
        | false =>
          rw [hr] at hbad HO
          have hp : plainOf p f = some ((k : Int), 501) := by unfold plainOf; rw [find_range hlt hbad HV.out]
          rw [hp]
          clear hbad hb hlr hr hp
          go_wp2_with (go_at_call 215; refine HO.out.mono ?_; rintro e w2 ⟨rfl, hB2⟩)
          have HB3 := Lib.hid (below_trans HB1.out hB2)
          clear hB2
          go_ret
          exact ⟨_, rfl, fault_new _ _ _, below_alloc HB3.out _⟩
    · have hk' : k = f.code.length := by omega
      subst hk'
      have hnone : (List.range f.code.length).find? (badAt p f) = none := find_none HV.out
      obtain ⟨n, hn⟩ : ∃ n, f.code.length = n + 1 := ⟨f.code.length - 1, by omega⟩
      have hln : n < f.code.length := by omega
      obtain ⟨ad, rfl, c0, c1⟩ := HF.out.r.at_ HB.out hln
      have hlr : n < (reachL f.code).length := by rw [HL.out]; exact hln
      have cm := bools_cell (HR.out.below HB.out) hlr
      have c2 := (HF.out.below HB.out).c2
      have hend : endBad f = ((reachL f.code)[n] && (decide (f.code[n].kind ≠ 12) && decide (f.code[n].kind ≠ 16))) := by
        unfold endBad
        rw [show f.code.length - 1 = n by omega, List.getElem?_eq_getElem hlr, List.getElem?_eq_getElem hln]
        cases (reachL f.code)[n] <;> simp
      have hp : plainOf p f = if endBad f then some ((f.code.length : Int) - 1, 503) else none := by unfold plainOf; rw [hnone]
      have hsub : (f.code.length : Int) - 1 = n := by omega
      rw [hend, hsub] at hp
      have HE := Lib.hid hp
      have HS := Lib.hid hsub
      rw [hn] at c2
      clear hnone hend hp hsub hlt hk
      generalize (reachL f.code)[n] = b at cm HE
      generalize f.code[n].kind = kd at c0 HE
      rw [← hn] at c2
      have dk : decide (f.code.length < f.code.length) = false := by simp
      have hw : IntKind.i64.wrap ((f.code.length : Int) - 1) = n := by rw [HS.out]; exact IntWalk.i64_in _ (by omega)
      go_wp2_with fail
      all_goals go_ret
      all_goals rw [HE.out]
      all_goals first | (rw [if_neg (by simp_all)]; exact ⟨_, rfl, rfl, HB.out⟩) | (rw [if_pos (by simp_all)]; exact ⟨_, rfl, fault_new _ _ _, below_alloc HB.out _⟩)
end Go.Proofs.YtjghibdlmmjobaaGreatDoor

namespace Go.Proofs.YtjghibdlmmjobaaGreatDoor
open Go.RowKit

theorem maskN (a : Nat) (ha : a < 18446744073709551616) : bits .and .u64 (a : Int) 4294967295 = ((a % 4294967296 : Nat) : Int) := by
  have h := bits_and_u64_nat a 4294967295 ha (by omega)
  have e : a &&& 4294967295 = a % 4294967296 := Nat.and_two_pow_sub_one_eq_mod a 32
  rw [e] at h
  exact h
set_option maxHeartbeats 1000000 in
theorem mul64_one (y : Nat) (hy : y < 4294967296) (w : World) : Calls Tryz.prog 234 #[.int .u64 1, .int .u64 y] w fun e w' => e = .returned (.tuple #[.int .u64 0, .int .u64 y]) ∧ w' = w := by
  have m1 : bits .and .u64 1 4294967295 = 1 := maskN 1 (by omega)
  have m2 : bits .and .u64 (y : Int) 4294967295 = y := by rw [maskN y (by omega)]; omega
  have d2 : (y : Int) / 4294967296 = 0 := by omega
  have w2 : IntKind.u64.wrap (y : Int) = y := by rw [IntKind.wrap_u64]; omega
  have m0 : bits .and .u64 0 4294967295 = 0 := maskN 0 (by omega)
  go_enter Tryz.func234, Tryz.ntmps234
  go_wp2
  go_ret2
  exact ⟨rfl, rfl⟩
set_option maxHeartbeats 1000000 in
theorem mul_one' (y : Nat) (hy : y < 4294967296) (w : World) : Calls Tryz.prog 228 #[.int .u64 1, .int .u64 y] w fun e w' => e = .returned (.tuple #[.int .u64 0, .int .u64 y]) ∧ w' = w := by
  have H := Lib.hid (mul64_one y hy w)
  have w2 : IntKind.u64.wrap (y : Int) = y := by rw [IntKind.wrap_u64]; omega
  go_enter Tryz.func228, Tryz.ntmps228
  go_wp2_with (go_at_call 234; refine H.out.mono ?_; rintro e w' ⟨rfl, hw⟩; rw [hw])
  go_ret2
  exact ⟨rfl, rfl⟩
theorem size_int : (Tryz.prog.info? 3).map (·.size) = some 1 := by kernel_rfl
def part1 (n m : Nat) : List Int := List.replicate m (-1) ++ List.replicate (n - m) 0
theorem part_splice {n m k : Nat} (hm : m + k ≤ n) : splice (intsV (part1 n m)) m (intsV (List.replicate k (-1))) = intsV (part1 n (m + k)) := by
  unfold splice part1 intsV
  rw [← List.map_take, ← List.map_drop, List.length_map, List.length_replicate, ← List.map_append, ← List.map_append]
  congr 1
  rw [List.take_append_of_le_length (by simp), List.take_of_length_le (by simp), List.drop_append, List.drop_of_length_le (by simp)]
  simp only [List.length_replicate, List.nil_append, List.drop_replicate]
  rw [← List.append_assoc, List.replicate_append_replicate]
  congr 2
  omega
theorem part_len (n m : Nat) (h : m ≤ n) : (part1 n m).length = n := by simp [part1]; omega
set_option maxRecDepth 100000 in
set_option maxHeartbeats 4000000 in
theorem repeat_any (b n : Nat) (w : World) (hb : RowAt 3 b (intsV [-1]) w) (h1 : 1 ≤ n) (hn : n ≤ 100) :
    Calls Tryz.prog 216 #[.slice (some ⟨b, 0, none⟩) 1 1, .int .i64 n] w fun e w' => ∃ g, e = .returned (.slice (some ⟨g, 0, none⟩) n n) ∧ RowAt 3 g (intsV (List.replicate n (-1))) w' ∧ w.heap.size ≤ g ∧ Below w.heap.size w w' := by
  have HM := Lib.hid (mul_one' n (by omega) w)
  have HR := Lib.hid hb
  have hmk := make_ints n hn w
  have hcm : ∀ j v, (intsV [-1])[j]? = some v → (w.alloc (.cells (intsV (List.replicate n 0)).toArray 3)).cell? ((⟨b, 0, none⟩ : Addr).add j) = some v := fun j v hj => by
    obtain ⟨hj', rfl⟩ := List.getElem?_eq_some_iff.1 hj
    rw [add_plain]
    exact (hb.below (below_alloc (Below.refl _ _) _)).cell hj'
  have HC := Lib.hid hcm
  have w2 : IntKind.u64.wrap (n : Int) = n := by rw [IntKind.wrap_u64]; omega
  have d1 : decide ((n : Int) < 0) = false := by simp
  clear hb hcm
  go_enter Tryz.func216, Tryz.ntmps216
  go_wp2_with fail
  refine HM.out.mono ?_
  rintro e w' ⟨rfl, rfl⟩
  go_wp2_with (with_reducible refine wpList_copy_splice rfl (.tmp 31) (.tmp 32) 28 28 rfl 3 Tryz.underlying28 size_int _ _ _ _ _ _ rfl rfl w'.heap.size 0 (intsV (List.replicate n 0)) 3 ?c1 (intsV [-1]) ?c2 ?c3 ?c4 ?c5 w'.heap.size w' ?c6 (Nat.le_refl _) ?_; rotate_left 6; intro w3 hg3 hb3)
  case c1 => exact blk_new w' _
  case c2 => exact (Nat.min_eq_left h1).symm
  case c3 =>
    intro _ j v hj
    rw [← add_plain]
    exact HC.out j v hj
  case c4 => simp [intsV]; omega
  case c5 => intro v hv; simp [intsV] at hv; subst hv; rfl
  case c6 => exact below_alloc (Below.refl _ _) _
  have r3 : RowAt 3 w'.heap.size (intsV (part1 n 1)) w3 := by
    have e := part_splice (n := n) (m := 0) (k := 1) (by omega)
    have h := hg3.out
    rw [show List.replicate n (0 : Int) = part1 n 0 by simp [part1], show [(-1 : Int)] = List.replicate 1 (-1) from rfl, e] at h
    exact h
  clear hmk hg3
  have HC := trivial
  have d2 : decide (9223372036854775807 < (n : Int)) = false := by simp; omega
  go_loopw [8] (fun i wr => ∃ m : Nat, 1 ≤ m ∧ m ≤ n ∧ i = .int .i64 m ∧ RowAt 3 w'.heap.size (intsV (part1 n m)) wr ∧ Below w'.heap.size w' wr) (fun i _ => n - (intOf i).toNat)
  case atStart => exact ⟨1, Nat.le_refl _, h1, rfl, r3, hb3⟩
  case round =>
    obtain ⟨m, hm1, hmn, rfl, hr, hB⟩ := hrel
    clear r3 hb3
    have HB := Lib.hid hB
    have HRR := Lib.hid hr
    clear hr hB
    by_cases hlt : m < n
    · go_upto_region 9 with fail
      obtain ⟨k, hk⟩ : ∃ k, Nat.min m (n - m) = k := ⟨_, rfl⟩
      have hk1 : k ≤ m := hk ▸ Nat.min_le_left _ _
      have hk2 : k ≤ n - m := hk ▸ Nat.min_le_right _ _
      have hk0 : 1 ≤ k := by rw [← hk]; exact Nat.le_min.2 ⟨hm1, by omega⟩
      have hcs : ∀ j v, (intsV (List.replicate k (-1)))[j]? = some v → wr.cell? ((⟨w'.heap.size, 0, none⟩ : Addr).add j) = some v := fun j v hj => by
        obtain ⟨hj', rfl⟩ := List.getElem?_eq_some_iff.1 hj
        have hj2 : j < k := by simpa [intsV] using hj'
        rw [add_plain, HRR.out.cell (by simp [intsV, part1]; omega)]
        simp only [intsV, part1, List.getElem_map]
        rw [List.getElem_append_left (by simp; omega)]; simp
      have HCS := Lib.hid hcs
      have HK := Lib.hid hk
      clear hcs hk
      have hcp : ∃ w4, (Builtin.copy_ #[28, 28] 3 #[.slice (some ⟨w'.heap.size, m, none⟩) (n - m) (n - m), .slice (some ⟨w'.heap.size, 0, none⟩) m n]).run Tryz.prog wr.drew = .ok (.int .i64 k) w4 ∧ RowAt 3 w'.heap.size (intsV (part1 n (m + k))) w4 ∧ Below w'.heap.size w' w4 := by
        have h := run_copy_row (P := Tryz.prog) wr.drew 28 28 3 3 w'.heap.size m (n - m) (n - m) ⟨w'.heap.size, 0, none⟩ m n _ 3 (intsV (List.replicate k (-1))) Tryz.underlying28 size_int HRR.out (by rw [intsV_len, List.length_replicate]; exact HK.out.symm) (by simpa using HCS.out) (by simp [intsV, part1]; omega) (by intro v hv; simp [intsV] at hv; rw [hv.2]; rfl)
        have e : goInt (intsV (List.replicate k (-1))).length = .int .i64 k := by rw [intsV_len, List.length_replicate]; rfl
        rw [e] at h
        refine ⟨_, h, ?_, ?_⟩
        · have e := setRow_heap wr.drew w'.heap.size (intsV (part1 n m)).toArray (splice (intsV (part1 n m)) m (intsV (List.replicate k (-1)))).toArray 3 (0, 0) HRR.out
          rw [part_splice (by omega)] at e
          unfold RowAt
          rw [← e]
          rw [← part_splice (by omega)]
          simp [splice]
        · exact below_setRow HB.out.drew (Nat.le_refl _) _
      obtain ⟨w4, hrun, hr4, hB4⟩ := hcp
      have HR4 := Lib.hid hr4
      have HB4 := Lib.hid hB4
      have hne : ¬ n = m := by omega
      clear hr4 hB4 HCS HK
      go_region
      go_wp2_with fail
      go_roundw
      case rel => exact ⟨m + k, by omega, by omega, by go_num, HR4.out, HB4.out⟩
      case measure => simp only [intOf]; omega
    · obtain rfl : m = n := by omega
      go_wp2_with fail
      go_ret
      exact ⟨_, rfl, by have := HRR.out; rwa [show part1 m m = List.replicate m (-1) by simp [part1]] at this, Nat.le_refl _, HB.out⟩
end Go.Proofs.YtjghibdlmmjobaaGreatDoor

namespace Go.Proofs.YtjghibdlmmjobaaGreatDoor
open Go.RowKit

set_option maxRecDepth 100000 in
set_option maxHeartbeats 4000000 in
theorem rnext_any (f : Fn) (A : Option Addr) (c : Nat) (pc : Nat) (w : World) (hr : ReadsC w A f.code) (hm : codeMay f.code = true) (hpc : pc < f.code.length) :
    Calls Tryz.prog 203 #[fnV f A c, .int .i64 pc] w (ListsE (nextOf f.code.length pc f.code[pc]) 0 w) := by
  have b1 : Below w.heap.size w (w.alloc (.cells #[.int .i64 f.args, .int .i64 f.locals, .slice A f.code.length c] 84)) := below_alloc (Below.refl _ _) _
  have hF := fnAt_new f A c w hr
  have HM := Lib.hid (rfuncMay_any f A c _ (hr.below b1))
  rw [hm] at HM
  have hn : f.code.length ≤ 9223372036854775807 := hr.1
  have h64 : f.code.length ≤ 64 := by unfold codeMay at hm; simp only [Bool.and_eq_true, decide_eq_true_eq] at hm; omega
  have HF := Lib.hid hF
  have d1 : decide ((pc : Int) < 0) = false := by simp
  have d2 : decide (f.code.length ≤ pc) = false := by simpa using hpc
  clear hr hF hm
  obtain ⟨x, hx⟩ : ∃ x, f.code[pc] = x := ⟨_, rfl⟩
  rw [hx]
  obtain ⟨k, a⟩ := x
  unfold fnV at HM ⊢
  go_enter Tryz.func203, Tryz.ntmps203
  go_wp2_with fail
  refine HM.out.mono ?_
  rintro e w2 ⟨rfl, hB⟩
  have hF2 := HF.out.below hB
  have c2 := hF2.c2
  obtain ⟨ad, rfl, i0, i1⟩ := hF2.r.at_ (Below.refl _ _) hpc
  rw [hx] at i0 i1
  have B2 := Lib.hid (below_trans b1 hB)
  clear hF2 hB b1 HF HM
  have c3 : (w2.alloc (.cells #[.int .i64 k, .int .i64 a] 48)).cell? ⟨w.heap.size, 2, none⟩ = some (.slice (some ad) f.code.length c) := Lib.cell?_alloc_some _ c2
  have bw : Below w2.heap.size w2 (w2.alloc (.cells #[.int .i64 k, .int .i64 a] 48)) := below_alloc (Below.refl _ _) _
  have hsz := B2.out.size
  go_upto_region 5 with fail
  by_cases hs : k ≠ 16 ∧ k ≠ 12 ∧ pc + 1 < f.code.length
  · obtain ⟨k16, k12, hp⟩ := hs
    have e16 : (k != 16) = true := by simpa using k16
    have e12 : (k != 12) = true := by simpa using k12
    have ep : decide ((pc : Int) + 1 < f.code.length) = true := by simp; omega
    have d12 : (k == 12) = false := by simpa using k12
    go_upto_region 7 with (first | (at_builtin; refine wpList_append_q _ rfl _ _ rfl w.heap.size _ _ rfl (QRow.nil _ _) ?c1 _ 1 1 [(pc : Int) + 1] rfl rfl (by decide) ?c2 ?c3 ?_; rotate_left 3; intro v' w5 hG) | fail)
    case c1 => simp; omega
    case c2 =>
      intro i hi
      obtain rfl : i = 0 := by simpa using hi
      have := blk_new (w2.alloc (.cells #[.int .i64 k, .int .i64 a] 48)) (.cells #[.int .i64 ((pc : Int) + 1)] 3)
      rw [show (w2.alloc (.cells #[.int .i64 k, .int .i64 a] 48)).heap.size = w2.heap.size + 1 by simp] at this
      rw [add_plain]; exact (blk_cell this 0).trans rfl
    case c3 => simp
    replace hG : Grew ((w2.alloc (.cells #[.int .i64 k, .int .i64 a] 48)).alloc (.cells #[.int .i64 ((pc : Int) + 1)] 3)) w.heap.size (.slice none 0 0) [(pc : Int) + 1] v' w5 := hG
    have hk5 : Below w.heap.size w w5 := (below_trans B2.out (below_alloc bw _)).grown hG.kept (by simp; omega) (fun k hk => by cases hk)
    have k0 : w5.cell? ⟨w2.heap.size, 0, none⟩ = some (.int .i64 k) := hG.kept.cell (Lib.cell?_alloc_some _ ((blk_cell (blk_new w2 _) 0).trans rfl)) (by simp [Value.ownBlock])
    have k1 : w5.cell? ⟨w2.heap.size, 1, none⟩ = some (.int .i64 a) := hG.kept.cell (Lib.cell?_alloc_some _ ((blk_cell (blk_new w2 _) 1).trans rfl)) (by simp [Value.ownBlock])
    have k2 : w5.cell? ⟨w.heap.size, 2, none⟩ = some (.slice (some ad) f.code.length c) := hG.kept.cell (Lib.cell?_alloc_some _ c3) (by simp [Value.ownBlock])
    have hrow := hG.row
    obtain ⟨ao, cap, rfl, hrd⟩ := hrow.reads
    obtain ⟨a5, rfl, o0⟩ := hrd.at_ (k := 0) (by simp)
    rw [add_nil] at o0
    have HROW := Lib.hid hrow
    have HRD := Lib.hid hrd
    have B5 := Lib.hid hk5
    clear hrow hrd hk5 hG c3 bw
    by_cases k13 : k = 13
    · subst k13
      by_cases ha : a < f.code.length
      · have da : decide (a < (f.code.length : Int)) = true := by simpa using ha
        by_cases hx : (pc : Int) + 1 = a
        · have de : ((pc : Int) + 1 != a) = false := by simpa using hx
          go_quiet (fail)
          go_wp2_with fail
          go_ret2
          have el : nextOf f.code.length pc ⟨13, a⟩ = [(pc : Int) + 1] := by unfold nextOf; simp [hp]; intro _; exact hx
          rw [el]
          exact ⟨_, _, rfl, HRD.out.below (below_drew (Below.refl _ _) _), below_drew B5.out _, fun a e => HROW.out.lo _ (by cases e; rfl)⟩
        · have de : ((pc : Int) + 1 != a) = true := by simpa using hx
          go_quiet (fail)
          go_wp2_with (first | (at_builtin; refine wpList_append_q _ rfl _ _ rfl w.heap.size _ _ rfl (HROW.out.below (below_alloc (below_drew (Below.refl _ _) _) _)) ?c7 _ 1 1 [a] rfl rfl (by decide) ?c8 ?c9 ?_; rotate_left 3; intro v' w6 hG) | fail)
          case c7 => have := B5.out.size; simp; omega
          case c8 =>
            intro i hi
            obtain rfl : i = 0 := by simpa using hi
            have := blk_new (w5.drewN nq) (.cells #[.int .i64 a] 3)
            rw [add_plain]; exact (blk_cell this 0).trans rfl
          case c9 => simp
          replace hG : Grew ((w5.drewN nq).alloc (.cells #[.int .i64 a] 3)) w.heap.size (.slice (some a5) [(pc : Int) + 1].length cap) ([(pc : Int) + 1] ++ [a]) v' w6 := hG
          have hrow := hG.row
          have hlo6 := hrow.lo
          obtain ⟨ao6, cap6, rfl, hrd6⟩ := hrow.reads
          have B6 := Lib.hid ((below_alloc (below_drew B5.out nq) (.cells #[.int .i64 a] 3)).grown hG.kept (by have := B5.out.size; simp; omega) (HROW.out.lo))
          have HL6 := Lib.hid hlo6
          have HR6 := Lib.hid hrd6
          clear hG hrow hlo6 hrd6
          go_wp2_with fail
          go_ret2
          have el : nextOf f.code.length pc ⟨13, a⟩ = [(pc : Int) + 1] ++ [a] := by unfold nextOf; simp [hp, hx, ha]
          rw [el]
          exact ⟨_, _, rfl, HR6.out, B6.out, fun a e => HL6.out _ (by cases e; rfl)⟩
      · have da : decide (a < (f.code.length : Int)) = false := by simpa using ha
        go_quiet (fail)
        go_wp2_with fail
        go_ret2
        have el : nextOf f.code.length pc ⟨13, a⟩ = [(pc : Int) + 1] := by unfold nextOf; simp [hp]; omega
        rw [el]
        exact ⟨_, _, rfl, HRD.out.below (below_drew (Below.refl _ _) _), below_drew B5.out _, fun a e => HROW.out.lo _ (by cases e; rfl)⟩
    · have d13 : (k == 13) = false := by simpa using k13
      go_quiet (fail)
      go_wp2_with fail
      go_ret2
      have el : nextOf f.code.length pc ⟨k, a⟩ = [(pc : Int) + 1] := by unfold nextOf; simp [k16, k12, hp, k13]
      rw [el]
      exact ⟨_, _, rfl, HRD.out.below (below_drew (Below.refl _ _) _), below_drew B5.out _, fun a e => HROW.out.lo _ (by cases e; rfl)⟩
  · by_cases k16 : k = 16
    · subst k16
      go_upto_region 7 with fail
      go_quiet (fail)
      go_wp2_with fail
      go_ret2
      have el : nextOf f.code.length pc ⟨16, a⟩ = [] := by unfold nextOf; first | (simp; done) | (simp; omega) | (simp_all; done) | (simp_all; omega)
      rw [el]
      exact ⟨_, _, rfl, reads_nil _ _, below_drew (below_trans B2.out bw) _, fun a e => by cases e⟩
    have e16 : (k != 16) = true := by simpa using k16
    by_cases k12 : k = 12
    · subst k12
      go_upto_region 7 with fail
      by_cases ha : a < (f.code.length : Int)
      · have da : decide (a < (f.code.length : Int)) = true := by simpa using ha
        go_quiet (fail)
        go_wp2_with (first | (at_builtin; refine wpList_append_q _ rfl _ _ rfl w.heap.size _ _ rfl (QRow.nil _ _) ?cA2 _ 1 1 [a] rfl rfl (by decide) ?cB2 ?cC2 ?_; rotate_left 3; intro v' w6 hG) | fail)
        case cA2 => simp; omega
        case cB2 =>
          intro i hi
          obtain rfl : i = 0 := by simpa using hi
          have := blk_new ((w2.alloc (.cells #[.int .i64 12, .int .i64 a] 48)).drewN nq) (.cells #[.int .i64 a] 3)
          rw [show ((w2.alloc (.cells #[.int .i64 12, .int .i64 a] 48)).drewN nq).heap.size = w2.heap.size + 1 by simp] at this
          rw [add_plain]; exact (blk_cell this 0).trans rfl
        case cC2 => simp
        replace hG : Grew (((w2.alloc (.cells #[.int .i64 12, .int .i64 a] 48)).drewN nq).alloc (.cells #[.int .i64 a] 3)) w.heap.size (.slice none 0 0) [a] v' w6 := hG
        have hrow := hG.row
        have hlo6 := hrow.lo
        obtain ⟨ao6, cap6, rfl, hrd6⟩ := hrow.reads
        have B6 := Lib.hid ((below_alloc (below_drew (below_trans B2.out bw) nq) (.cells #[.int .i64 a] 3)).grown hG.kept (by simp; omega) (fun k hk => by cases hk))
        have HL6 := Lib.hid hlo6
        have HR6 := Lib.hid hrd6
        clear hG hrow hlo6 hrd6
        go_wp2_with fail
        go_ret2
        have el : nextOf f.code.length pc ⟨12, a⟩ = [a] := by unfold nextOf; first | (simp; done) | (simp; omega) | (simp_all; done) | (simp_all; omega)
        rw [el]
        exact ⟨_, _, rfl, HR6.out, B6.out, fun a e => HL6.out _ (by cases e; rfl)⟩
      · have da : decide (a < (f.code.length : Int)) = false := by simpa using ha
        go_quiet (fail)
        go_wp2_with fail
        go_ret2
        have el : nextOf f.code.length pc ⟨12, a⟩ = [] := by unfold nextOf; first | (simp; done) | (simp; omega) | (simp_all; done) | (simp_all; omega)
        rw [el]
        exact ⟨_, _, rfl, reads_nil _ _, below_drew (below_trans B2.out bw) _, fun a e => by cases e⟩
    have e12 : (k != 12) = true := by simpa using k12
    have d12 : (k == 12) = false := by simpa using k12
    have hp : ¬ pc + 1 < f.code.length := fun h => hs ⟨k16, k12, h⟩
    have ep : decide ((pc : Int) + 1 < f.code.length) = false := by simp; omega
    go_upto_region 7 with fail
    by_cases k13 : k = 13
    · subst k13
      by_cases ha : a < (f.code.length : Int)
      · have da : decide (a < (f.code.length : Int)) = true := by simpa using ha
        go_quiet (fail)
        go_wp2_with (first | (at_builtin; refine wpList_append_q _ rfl _ _ rfl w.heap.size _ _ rfl (QRow.nil _ _) ?cA4 _ 1 1 [a] rfl rfl (by decide) ?cB4 ?cC4 ?_; rotate_left 3; intro v' w6 hG) | fail)
        case cA4 => simp; omega
        case cB4 =>
          intro i hi
          obtain rfl : i = 0 := by simpa using hi
          have := blk_new ((w2.alloc (.cells #[.int .i64 13, .int .i64 a] 48)).drewN nq) (.cells #[.int .i64 a] 3)
          rw [show ((w2.alloc (.cells #[.int .i64 13, .int .i64 a] 48)).drewN nq).heap.size = w2.heap.size + 1 by simp] at this
          rw [add_plain]; exact (blk_cell this 0).trans rfl
        case cC4 => simp
        replace hG : Grew (((w2.alloc (.cells #[.int .i64 13, .int .i64 a] 48)).drewN nq).alloc (.cells #[.int .i64 a] 3)) w.heap.size (.slice none 0 0) [a] v' w6 := hG
        have hrow := hG.row
        have hlo6 := hrow.lo
        obtain ⟨ao6, cap6, rfl, hrd6⟩ := hrow.reads
        have B6 := Lib.hid ((below_alloc (below_drew (below_trans B2.out bw) nq) (.cells #[.int .i64 a] 3)).grown hG.kept (by simp; omega) (fun k hk => by cases hk))
        have HL6 := Lib.hid hlo6
        have HR6 := Lib.hid hrd6
        clear hG hrow hlo6 hrd6
        go_wp2_with fail
        go_ret2
        have el : nextOf f.code.length pc ⟨13, a⟩ = [a] := by unfold nextOf; dsimp only; first | (rw [if_neg (fun h => hp h.2.2), if_pos ⟨by simp, ha, by simp⟩]; rfl) | (simp; done) | (simp; omega) | (simp_all; done) | (simp_all; omega)
        rw [el]
        exact ⟨_, _, rfl, HR6.out, B6.out, fun a e => HL6.out _ (by cases e; rfl)⟩
      · have da : decide (a < (f.code.length : Int)) = false := by simpa using ha
        go_quiet (fail)
        go_wp2_with fail
        go_ret2
        have el : nextOf f.code.length pc ⟨13, a⟩ = [] := by unfold nextOf; dsimp only; first | (rw [if_neg (fun h => hp h.2.2), if_neg (fun h => ha h.2.1)]; rfl) | (simp; done) | (simp; omega) | (simp_all; done) | (simp_all; omega)
        rw [el]
        exact ⟨_, _, rfl, reads_nil _ _, below_drew (below_trans B2.out bw) _, fun a e => by cases e⟩
    · have d13 : (k == 13) = false := by simpa using k13
      go_quiet (fail)
      go_wp2_with fail
      go_ret2
      have el : nextOf f.code.length pc ⟨k, a⟩ = [] := by unfold nextOf; dsimp only; first | (rw [if_neg (fun h => hp h.2.2), if_neg (by simp [k12, k13])]; rfl) | (simp; done) | (simp; omega) | (simp_all; done) | (simp_all; omega)
      rw [el]
      exact ⟨_, _, rfl, reads_nil _ _, below_drew (below_trans B2.out bw) _, fun a e => by cases e⟩
end Go.Proofs.YtjghibdlmmjobaaGreatDoor
