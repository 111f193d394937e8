/- What 'verify' asks without heights: 'outside', 'args', 'plain' and the document's 'ranged'. Conditions: the program, the function, the marks lie in memory as they are said. -/
import Derived.Test.YtpfgklkdldkajaaDoorVer
import Derived.Test.YtpfgklkdldkajaaDoorVTold
import Derived.Test.YtpfgklkdldkajaaDoorGen
import Derived.Test.YtpfgklkdldkajaaDoorNexts
namespace Go.Proofs.YtpfgklkdldkajaaDoor
open Go.RowKit

theorem dle (a b : Int) : decide (b ≤ a) = !decide (a < b) := by by_cases h : a < b <;> simp [h] <;> omega
set_option maxRecDepth 100000 in
set_option maxHeartbeats 1000000 in
theorem outside_any (P F : Addr) (p : List Fn) (Ap : Option Addr) (cp : Nat) (f : Fn) (A : Option Addr) (c : Nat) (x : Ins) (w : World) (hP : w.cell? P = some (.slice Ap p.length cp)) (hF : FnAt w F f A c) :
    Calls Tryd.prog 66 #[.pointer (some P), .pointer (some F), x.v] w (Ret (.bool (!rangedB p f x)) w) := by
  obtain ⟨k, a⟩ := x
  have b1 : Below w.heap.size w (w.alloc (.cells #[.int .i64 k, .int .i64 a] 28)) := below_alloc (Below.refl _ _) _
  have h2 := hF.below b1
  have c1 := h2.c1
  have c2 := h2.c2
  have c3 := (b1.cell (World.block_lt_of_cell? w _ hP)).trans hP
  have HB := Lib.hid b1
  clear h2 hF hP b1
  unfold Ins.v
  by_cases k1 : k = 1
  · subst k1
    go_enter Tryd.func66, Tryd.ntmps66
    go_wp2_with fail
    go_quiet (fail)
    go_wp2_with fail
    go_ret
    exact ⟨ret_bool (by unfold rangedB; simp; exact dle _ _), below_drew HB.out _⟩
  have d1 : (k == 1) = false := by simpa using k1
  by_cases k2 : k = 2
  · subst k2
    go_enter Tryd.func66, Tryd.ntmps66
    go_wp2_with fail
    go_quiet (fail)
    go_wp2_with fail
    go_ret
    exact ⟨ret_bool (by unfold rangedB; simp; exact dle _ _), below_drew HB.out _⟩
  have d2 : (k == 2) = false := by simpa using k2
  by_cases k12 : k = 12
  · subst k12
    go_enter Tryd.func66, Tryd.ntmps66
    go_wp2_with fail
    go_quiet (fail)
    go_wp2_with fail
    go_ret
    exact ⟨ret_bool (by unfold rangedB; simp; exact dle _ _), below_drew HB.out _⟩
  have d12 : (k == 12) = false := by simpa using k12
  by_cases k13 : k = 13
  · subst k13
    go_enter Tryd.func66, Tryd.ntmps66
    go_wp2_with fail
    go_quiet (fail)
    go_wp2_with fail
    go_ret
    exact ⟨ret_bool (by unfold rangedB; simp; exact dle _ _), below_drew HB.out _⟩
  have d13 : (k == 13) = false := by simpa using k13
  by_cases k14 : k = 14
  · subst k14
    go_enter Tryd.func66, Tryd.ntmps66
    go_wp2_with fail
    go_quiet (fail)
    go_wp2_with fail
    go_ret
    exact ⟨ret_bool (by unfold rangedB; simp; exact dle _ _), below_drew HB.out _⟩
  have d14 : (k == 14) = false := by simpa using k14
  go_enter Tryd.func66, Tryd.ntmps66
  go_wp2_with fail
  go_ret
  exact ⟨ret_bool (by unfold rangedB; simp [k1, k2, k12, k13, k14]), HB.out⟩
set_option maxRecDepth 100000 in
set_option maxHeartbeats 1000000 in
theorem args_any (P : Addr) (p : List Fn) (Ap : Option Addr) (cp : Nat) (x : Ins) (w : World) (hP : w.cell? P = some (.slice Ap p.length cp)) (hr : ReadsF w Ap p) (hx : x.kind = 14 → 0 ≤ x.a ∧ x.a < p.length) :
    Calls Tryd.prog 69 #[.pointer (some P), x.v] w (Ret (.int .i64 (argsOf p x)) w) := by
  obtain ⟨k, a⟩ := x
  have b1 : Below w.heap.size w (w.alloc (.cells #[.int .i64 k, .int .i64 a] 28)) := below_alloc (Below.refl _ _) _
  have c3 := (b1.cell (World.block_lt_of_cell? w _ hP)).trans hP
  have HB := Lib.hid b1
  have HR := Lib.hid hr
  clear hr hP b1
  unfold Ins.v
  by_cases k14 : k = 14
  · subst k14
    obtain ⟨h0, hl⟩ := hx rfl
    obtain ⟨n, rfl⟩ := Int.eq_ofNat_of_zero_le h0
    have hn : n < p.length := by simpa using hl
    obtain ⟨ad, rfl, e0, e1, _⟩ := HR.out.at_ HB.out hn
    have ea : argsOf p ⟨14, n⟩ = p[n].args := by unfold argsOf; simp [hn]
    rw [ea]
    clear hl h0 hx ea
    go_enter Tryd.func69, Tryd.ntmps69
    go_wp2_with fail
    go_quiet (fail)
    go_wp2_with fail
    go_ret
    exact ⟨rfl, below_drew HB.out _⟩
  have d14 : (k == 14) = false := by simpa using k14
  have ea : argsOf p ⟨k, a⟩ = 0 := by unfold argsOf; rw [if_neg k14]
  rw [ea]
  go_enter Tryd.func69, Tryd.ntmps69
  go_wp2_with fail
  go_ret
  exact ⟨rfl, HB.out⟩
set_option maxRecDepth 100000 in
set_option maxHeartbeats 1000000 in
theorem ranged_any (p : List Fn) (Ap : Option Addr) (cp : Nat) (f : Fn) (A : Option Addr) (c : Nat) (x : Ins) (w : World) :
    Calls Tryd.prog 44 #[.agg #[.slice Ap p.length cp], fnV f A c, x.v] w (Ret (.bool (rangedB p f x)) w) := by
  obtain ⟨k, a⟩ := x
  have b1 : Below w.heap.size w (((w.alloc (.cells #[.slice Ap p.length cp] 24)).alloc (.cells #[.int .i64 f.args, .int .i64 f.locals, .slice A f.code.length c] 31)).alloc (.cells #[.int .i64 k, .int .i64 a] 28)) := below_alloc (below_alloc (below_alloc (Below.refl _ _) _) _) _
  have HB := Lib.hid b1
  clear b1
  unfold Ins.v fnV
  by_cases k1 : k = 1
  · subst k1
    go_enter Tryd.func44, Tryd.ntmps44
    go_wp2_with fail
    go_ret
    exact ⟨ret_bool (by unfold rangedB; simp), HB.out⟩
  have d1 : (k == 1) = false := by simpa using k1
  by_cases k2 : k = 2
  · subst k2
    go_enter Tryd.func44, Tryd.ntmps44
    go_wp2_with fail
    go_ret
    exact ⟨ret_bool (by unfold rangedB; simp), HB.out⟩
  have d2 : (k == 2) = false := by simpa using k2
  by_cases k12 : k = 12
  · subst k12
    go_enter Tryd.func44, Tryd.ntmps44
    go_wp2_with fail
    go_ret
    exact ⟨ret_bool (by unfold rangedB; simp), HB.out⟩
  have d12 : (k == 12) = false := by simpa using k12
  by_cases k13 : k = 13
  · subst k13
    go_enter Tryd.func44, Tryd.ntmps44
    go_wp2_with fail
    go_ret
    exact ⟨ret_bool (by unfold rangedB; simp), HB.out⟩
  have d13 : (k == 13) = false := by simpa using k13
  by_cases k14 : k = 14
  · subst k14
    go_enter Tryd.func44, Tryd.ntmps44
    go_wp2_with fail
    go_ret
    exact ⟨ret_bool (by unfold rangedB; simp), HB.out⟩
  have d14 : (k == 14) = false := by simpa using k14
  go_enter Tryd.func44, Tryd.ntmps44
  go_wp2_with fail
  go_ret
  exact ⟨ret_bool (by unfold rangedB; simp [k1, k2, k12, k13, k14]), HB.out⟩
theorem find_range {n i : Nat} {q : Nat → Bool} (hi : i < n) (hq : q i = true) (h : ∀ j, j < i → q j = false) : (List.range n).find? q = some i := by
  rw [List.find?_range_eq_some]
  exact ⟨hq, by simpa using hi, fun j hj => by simp [h j hj]⟩
theorem find_none {n : Nat} {q : Nat → Bool} (h : ∀ j, j < n → q j = false) : (List.range n).find? q = none := by
  rw [List.find?_eq_none]
  intro x hx
  have := h x (by simpa using hx)
  simp [this]
/-- An error, or none. -/
def ErrO (w : World) (v : Value) (o : Option (Int × Int)) : Prop := match o with
  | none => v = .nilIface
  | some e => ∃ m : Addr, v = .iface 124 (.pointer (some m)) ∧ w.cell? m = some (.int .i64 e.1) ∧ w.cell? ⟨m.block, m.off + 1, none⟩ = some (.iface 33 (.int .i64 e.2))
/-- A call that answers an error, or none. -/
def Errs (o : Option (Int × Int)) (w : World) (e : Ending) (w' : World) : Prop := ∃ v, e = .returned v ∧ ErrO w' v o ∧ Below w.heap.size w w'
theorem fault_new (w : World) (a b : Int) : ErrO (w.alloc (.cells #[.int .i64 a, .iface 33 (.int .i64 b)] 126)) (.iface 124 (.pointer (some ⟨w.heap.size, 0, none⟩))) (some (a, b)) :=
  ⟨_, rfl, (blk_cell (blk_new w _) 0).trans rfl, (blk_cell (blk_new w _) 1).trans rfl⟩
set_option maxRecDepth 100000 in
set_option maxHeartbeats 4000000 in
theorem plain_any (P F : Addr) (p : List Fn) (Ap : Option Addr) (cp : Nat) (f : Fn) (A : Option Addr) (c g : Nat) (w : World) (hP : w.cell? P = some (.slice Ap p.length cp)) (hF : FnAt w F f A c) (hm : codeMay f.code = true)
    (hR : RowAt 4 g (boolsV (reachL f.code)) w) : Calls Tryd.prog 39 #[.pointer (some P), .pointer (some F), .slice (some ⟨g, 0, none⟩) f.code.length f.code.length] w (Errs (plainOf p f) w) := by
  have HP := Lib.hid hP
  have HF := Lib.hid hF
  have HR := Lib.hid hR
  have hl := reachL_len hm
  have HL := Lib.hid hl
  obtain ⟨h1, h64⟩ := codeMay_len hm
  have c2 := hF.c2
  clear hP hF hR hl hm
  go_enter Tryd.func39, Tryd.ntmps39
  go_wp2_with fail
  go_loopw [16] (fun i wr => ∃ k : Nat, k ≤ f.code.length ∧ i = .int .i64 k ∧ (∀ j, j < k → badAt p f j = false) ∧ Below w.heap.size w wr) (fun i _ => f.code.length - (intOf i).toNat)
  case atStart => exact ⟨0, Nat.zero_le _, rfl, fun _ h => absurd h (Nat.not_lt_zero _), Below.refl _ _⟩
  case round =>
    obtain ⟨k, hk, rfl, hv, hB⟩ := hrel
    have HV := Lib.hid hv
    have HB := Lib.hid hB
    clear hv hB c2
    by_cases hlt : k < f.code.length
    · obtain ⟨ad, rfl, c0, c1⟩ := HF.out.r.at_ HB.out hlt
      have hlr : k < (reachL f.code).length := by rw [HL.out]; exact hlt
      have b1 : Below wr.heap.size wr (wr.alloc (.cells #[.int .i64 f.code[k].kind, .int .i64 f.code[k].a] 28)) := below_alloc (Below.refl _ _) _
      have HB1 := Lib.hid (below_trans HB.out b1)
      have cm := bools_cell (HR.out.below HB1.out) hlr
      have HO := Lib.hid (outside_any P F p Ap cp f _ c f.code[k] _ ((HB1.out.cell (World.block_lt_of_cell? w _ HP.out)).trans HP.out) (HF.out.below HB1.out))
      clear b1
      unfold Ins.v at HO
      cases hb : (reachL f.code)[k] with
      | false =>
        rw [hb] at cm
        have hbad : badAt p f k = false := by unfold badAt; rw [List.getElem?_eq_getElem hlr, hb]; rfl
        have HX := Lib.hid hbad
        clear hbad hb hlr
        go_wp2_with fail
        go_roundw
        case rel => exact ⟨k + 1, by omega, by go_num, fun j hj => by
          rcases Nat.lt_or_ge j k with h2 | h2
          · exact HV.out j h2
          · obtain rfl : j = k := by omega
            exact HX.out, HB1.out⟩
        case measure => simp only [intOf]; omega
      | true =>
        rw [hb] at cm
        have hbad : badAt p f k = !rangedB p f f.code[k] := by unfold badAt; rw [List.getElem?_eq_getElem hlr, hb, List.getElem?_eq_getElem hlt]; rfl
        cases hr : rangedB p f f.code[k] with
        | true =>
          rw [hr] at hbad HO
          have HX := Lib.hid hbad
          clear hbad hb hlr hr
          go_wp2_with (go_at_call 66; refine HO.out.mono ?_; rintro e w2 ⟨rfl, hB2⟩)
          have HB3 := Lib.hid (below_trans HB1.out hB2)
          go_roundw
          case rel => exact ⟨k + 1, by omega, by go_num, fun j hj => by
            rcases Nat.lt_or_ge j k with h2 | h2
            · exact HV.out j h2
            · obtain rfl : j = k := by omega
              exact HX.out, HB3.out⟩
          case measure => simp only [intOf]; omega
        | false =>
          rw [hr] at hbad HO
          have hp : plainOf p f = some ((k : Int), 501) := by unfold plainOf; rw [find_range hlt hbad HV.out]
          rw [hp]
          clear hbad hb hlr hr hp
          go_wp2_with (go_at_call 66; refine HO.out.mono ?_; rintro e w2 ⟨rfl, hB2⟩)
          have HB3 := Lib.hid (below_trans HB1.out hB2)
          clear hB2
          go_ret
          exact ⟨_, rfl, fault_new _ _ _, below_alloc HB3.out _⟩
    · have hk' : k = f.code.length := by omega
      subst hk'
      have hnone : (List.range f.code.length).find? (badAt p f) = none := find_none HV.out
      obtain ⟨n, hn⟩ : ∃ n, f.code.length = n + 1 := ⟨f.code.length - 1, by omega⟩
      have hln : n < f.code.length := by omega
      obtain ⟨ad, rfl, c0, c1⟩ := HF.out.r.at_ HB.out hln
      have hlr : n < (reachL f.code).length := by rw [HL.out]; exact hln
      have cm := bools_cell (HR.out.below HB.out) hlr
      have c2 := (HF.out.below HB.out).c2
      have hend : endBad f = ((reachL f.code)[n] && (decide (f.code[n].kind ≠ 12) && decide (f.code[n].kind ≠ 16))) := by
        unfold endBad
        rw [show f.code.length - 1 = n by omega, List.getElem?_eq_getElem hlr, List.getElem?_eq_getElem hln]
        cases (reachL f.code)[n] <;> simp
      have hp : plainOf p f = if endBad f then some ((f.code.length : Int) - 1, 503) else none := by unfold plainOf; rw [hnone]
      have hsub : (f.code.length : Int) - 1 = n := by omega
      rw [hend, hsub] at hp
      have HE := Lib.hid hp
      have HS := Lib.hid hsub
      rw [hn] at c2
      clear hnone hend hp hsub hlt hk
      generalize (reachL f.code)[n] = b at cm HE
      generalize f.code[n].kind = kd at c0 HE
      rw [← hn] at c2
      have dk : decide (f.code.length < f.code.length) = false := by simp
      have hw : IntKind.i64.wrap ((f.code.length : Int) - 1) = n := by rw [HS.out]; exact IntWalk.i64_in _ (by omega)
      go_wp2_with fail
      all_goals go_ret
      all_goals rw [HE.out]
      all_goals first | (rw [if_neg (by simp_all)]; exact ⟨_, rfl, rfl, HB.out⟩) | (rw [if_pos (by simp_all)]; exact ⟨_, rfl, fault_new _ _ _, below_alloc HB.out _⟩)
end Go.Proofs.YtpfgklkdldkajaaDoor
