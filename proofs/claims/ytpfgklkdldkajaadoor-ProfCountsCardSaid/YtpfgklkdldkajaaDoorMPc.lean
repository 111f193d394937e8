/- 'prof.more', 'prof.Call', 'prof.Branch': a profile of the call's own is told of a call, of a branch. Conditions: the profile is the call's own, and may be; the args lie apart from it. 'prof.Call', 'prof.Branch': a profile of the call's own is told of a call, of a branch. Conditions: the profile is the call's own, and may be; the args stay while it is written. 'prof.Called', 'prof.Branched' answer what the plain definitions say. Conditions: the program, the profile, the args lie in memory as they are said; no list is longer than the reach; errors.errorType is laid. A region that draws its order, whose last operations come one behind the other behind all others: its head by what holds behind any of its operations, its tail as it stands. No condition. 'prof.New': a program's profile of nothing. Conditions: the program lies in memory as it is said; errors.errorType is laid. -/
import Derived.Test.YtpfgklkdldkajaaDoorMPa
import Derived.Test.YtpfgklkdldkajaaDoorMPb
import Derived.Test.YtpfgklkdldkajaaDoorDraw
import Derived.StillTail
import Derived.Test.YtpfgklkdldkajaaDoorAll
namespace Go.Proofs.YtpfgklkdldkajaaDoor
open Go.RowKit

theorem more_any (a : Addr) (n : Int) (w : World) (hc : w.cell? a = some (.int .i64 n)) (hz : w.frozen? a = false) (h0 : 0 ≤ n) (h1 : n ≤ 1073741824) :
    Calls Tryd.prog 79 #[.pointer (some a)] w fun e w' => e = .returned (.tuple #[]) ∧ w' = w.setCell a (.int .i64 (moreN n)) := by
  have HM := Lib.hid (show moreN n = if n + 1 ≤ 1073741824 then n + 1 else 1073741824 by unfold moreN; by_cases h : n < 1073741824 <;> simp [h] <;> omega)
  by_cases h : n + 1 ≤ 1073741824
  · have HE := Lib.hid (show moreN n = n + 1 by rw [HM.out, if_pos h])
    have hm : min (n + 1) 1073741824 = n + 1 := by omega
    go_enter Tryd.func79, Tryd.ntmps79
    go_wp2
    go_end0
    exact ⟨rfl, by rw [HE.out]⟩
  · have HE := Lib.hid (show moreN n = 1073741824 by rw [HM.out, if_neg h])
    have hm : min (n + 1) 1073741824 = 1073741824 := by omega
    go_enter Tryd.func79, Tryd.ntmps79
    go_wp2
    go_end0
    exact ⟨rfl, by rw [HE.out]⟩

section
variable {w w1 : World} {base g off n cap : Nat} {ao : Option Addr}
theorem args_put {xs : List ArgP} (h : CRow w base 52 3 (.slice (some ⟨g, off, none⟩) n cap) n (argsV xs)) {j : Nat} (hj : j < xs.length) {c : Nat} (hc : c < 3) (u : Value) (x : ArgP) (hx : argC x = (argC xs[j]).set c u) :
    CRow (w.setCell ⟨g, off + j * 3 + c, none⟩ u) base 52 3 (.slice (some ⟨g, off, none⟩) n cap) n (argsV (xs.set j x)) := by
  have hp := CRow.elt_put (argC_len xs) h (i := j) (j := c) (by simpa using hj) hc u
  have e : (xs.map argC).set j (((xs.map argC)[j]'(by simpa using hj)).set c u) = (xs.set j x).map argC := by rw [List.getElem_map, ← hx, List.map_set]
  rwa [e] at hp
theorem args_at {xs : List ArgP} (h : CRow w base 52 3 (.slice ao n cap) n (argsV xs)) {j : Nat} (hj : j < xs.length) :
    ∃ g off, ao = some ⟨g, off, none⟩ ∧ base ≤ g ∧ ob (.slice ao n cap) = some g ∧ w.cell? ⟨g, off + j * 3, none⟩ = some (.int .i64 xs[j].value) ∧ w.cell? ⟨g, off + j * 3 + 1, none⟩ = some (.int .i64 xs[j].same) ∧ w.cell? ⟨g, off + j * 3 + 2, none⟩ = some (.int .i64 xs[j].other) ∧ w.frozen? ⟨g, off + j * 3, none⟩ = false ∧ w.frozen? ⟨g, off + j * 3 + 1, none⟩ = false ∧ w.frozen? ⟨g, off + j * 3 + 2, none⟩ = false := by
  have hn : n = xs.length := by have := h.len; rw [argsV_len] at this; omega
  have hcap := h.cap
  have ho := h.own (by omega)
  obtain ⟨g, off, rfl, h1, h2, hc⟩ := ho.elt (argC_len xs) (by decide) (i := j) (by simpa using hj)
  have hj' : j < (xs.map argC).length := by simpa using hj
  have c0 := hc j hj' 0 (by simp [argC])
  have c1 := hc j hj' 1 (by simp [argC])
  have c2 := hc j hj' 2 (by simp [argC])
  simp only [List.getElem_map, argC, List.getElem_cons_zero, List.getElem_cons_succ, Nat.add_zero, ← Nat.add_assoc] at c0 c1 c2
  exact ⟨g, off, rfl, h1, ob_some (by omega), c0.1, c1.1, c2.1, c0.2, c1.2, c2.2⟩
theorem ints_putC {xs : List Int} (h : CRow w base 3 1 (.slice (some ⟨g, off, none⟩) n cap) n (intsV xs)) {j : Nat} (hj : j < xs.length) (m : Int) : CRow (w.setCell ⟨g, off + j, none⟩ (.int .i64 m)) base 3 1 (.slice (some ⟨g, off, none⟩) n cap) n (intsV (xs.set j m)) := by
  have hn : n = xs.length := by have := h.len; rw [intsV_len] at this; omega
  have hp := (h.own (by omega)).put j (.int .i64 m) (by rw [intsV_len]; exact hj)
  rw [show (intsV xs).set j (.int .i64 m) = intsV (xs.set j m) by simp [intsV, List.map_set]] at hp
  exact .inl hp
theorem ints_atC {xs : List Int} (h : CRow w base 3 1 (.slice ao n cap) n (intsV xs)) {j : Nat} (hj : j < xs.length) :
    ∃ g off, ao = some ⟨g, off, none⟩ ∧ base ≤ g ∧ ob (.slice ao n cap) = some g ∧ w.cell? ⟨g, off + j, none⟩ = some (.int .i64 xs[j]) ∧ w.frozen? ⟨g, off + j, none⟩ = false := by
  have hn : n = xs.length := by have := h.len; rw [intsV_len] at this; omega
  have hcap := h.cap
  obtain ⟨g, off, rfl, h1, h2, hc⟩ := (h.own (by omega)).cell (k := j) (by rw [intsV_len]; exact hj)
  obtain ⟨c0, f0⟩ := hc j (by rw [intsV_len]; exact hj)
  exact ⟨g, off, rfl, h1, ob_some (by omega), by rw [c0]; simp [intsV], f0⟩
/-- The blocks of rows and of the rows in them. -/
def Foot (v : Value) (vss : List (List Value)) (b : Nat) : Prop := ∃ u ∈ v :: vss.flatten, ob u = some b
theorem Foot.inner {v : Value} {vss : List (List Value)} {k j b : Nat} (hk : k < vss.length) (hj : j < vss[k].length) (h : ob vss[k][j] = some b) : Foot v vss b := ⟨_, List.mem_cons_of_mem _ (List.mem_flatten.2 ⟨_, List.getElem_mem hk, List.getElem_mem hj⟩), h⟩
theorem OwnPr.put_arg {v : Value} {r : List FPr} {vss : List (List Value)} (h : OwnPr w base v r vss) {k : Nat} (hk : k < r.length) (hk' : k < vss.length) {U1 U2 : Value} {m c3 : Nat} (ev : vss[k] = [U1, U2, .slice (some ⟨g, off, none⟩) m c3]) {f : FPr} (hf : r[k] = f) {j : Nat} (hj : j < f.args.length) {c : Nat} (hc : c < 3) (u : Value) (x : ArgP) (hx : argC x = (argC f.args[j]).set c u) :
    OwnPr (w.setCell ⟨g, off + j * 3 + c, none⟩ u) base v (r.set k ⟨f.calls, f.jumps, f.falls, f.args.set j x⟩) vss ∧ Chg (Foot v vss) w (w.setCell ⟨g, off + j * 3 + c, none⟩ u) := by
  subst hf
  have hl2 : 2 < vss[k].length := by rw [ev]; simp
  have e2 : vss[k][2] = .slice (some ⟨g, off, none⟩) m c3 := by simp [ev]
  obtain ⟨e, hi⟩ := OwnG.inn h k hk hk'
  have hi2 : CRow w base 52 3 (.slice (some ⟨g, off, none⟩) m c3) r[k].args.length (argsV r[k].args) := by
    have := hi 2 hl2 (by simp [KPr])
    rw [e2] at this; exact this
  obtain ⟨_, _, es, _, _⟩ := hi2.shape
  injection es with _ es _
  subst es
  obtain ⟨g', off', eg, hg, hob, _⟩ := args_at hi2 hj
  cases eg
  have hch : Chg (fun b => ob vss[k][2] = some b) w (w.setCell ⟨g, off + j * 3 + c, none⟩ u) := Chg.put (S := fun b => ob vss[k][2] = some b) (Chg.refl _ w) (a := ⟨g, off + j * 3 + c, none⟩) (by show ob vss[k][2] = some g; rw [e2]; exact hob) u
  refine ⟨OwnG.turn h hk hk' hl2 ⟨r[k].calls, r[k].jumps, r[k].falls, r[k].args.set j x⟩ (innA (r[k].args.set j x)) hch ?_ rfl rfl, hch.mono fun b hb => ?_⟩
  · rw [e2]
    have := args_put hi2 hj hc u x hx
    show CRow _ _ _ _ _ (r[k].args.set j x).length _
    rw [List.length_set]; exact this
  · exact Foot.inner hk' hl2 hb
theorem OwnPr.put_jump {v : Value} {r : List FPr} {vss : List (List Value)} (h : OwnPr w base v r vss) {k : Nat} (hk : k < r.length) (hk' : k < vss.length) {U2 U3 : Value} {m c1 : Nat} (ev : vss[k] = [.slice (some ⟨g, off, none⟩) m c1, U2, U3]) {f : FPr} (hf : r[k] = f) {j : Nat} (hj : j < f.jumps.length) (x : Int) :
    OwnPr (w.setCell ⟨g, off + j, none⟩ (.int .i64 x)) base v (r.set k ⟨f.calls, f.jumps.set j x, f.falls, f.args⟩) vss ∧ Chg (Foot v vss) w (w.setCell ⟨g, off + j, none⟩ (.int .i64 x)) := by
  subst hf
  have hl2 : 0 < vss[k].length := by rw [ev]; simp
  have e2 : vss[k][0] = .slice (some ⟨g, off, none⟩) m c1 := by simp [ev]
  obtain ⟨e, hi⟩ := OwnG.inn h k hk hk'
  have hi2 : CRow w base 3 1 (.slice (some ⟨g, off, none⟩) m c1) r[k].jumps.length (intsV r[k].jumps) := by
    have := hi 0 hl2 (by simp [KPr])
    rw [e2] at this; exact this
  obtain ⟨_, _, es, _, _⟩ := hi2.shape
  injection es with _ es _
  subst es
  obtain ⟨g', off', eg, hg, hob, _⟩ := ints_atC hi2 hj
  cases eg
  have hch : Chg (fun b => ob vss[k][0] = some b) w (w.setCell ⟨g, off + j, none⟩ (.int .i64 x)) := Chg.put (S := fun b => ob vss[k][0] = some b) (Chg.refl _ w) (a := ⟨g, off + j, none⟩) (by show ob vss[k][0] = some g; rw [e2]; exact hob) _
  refine ⟨OwnG.turn h hk hk' hl2 ⟨r[k].calls, r[k].jumps.set j x, r[k].falls, r[k].args⟩ (innI (r[k].jumps.set j x)) hch ?_ rfl rfl, hch.mono fun b hb => ?_⟩
  · rw [e2]
    have := ints_putC hi2 hj x
    show CRow _ _ _ _ _ (r[k].jumps.set j x).length _
    rw [List.length_set]; exact this
  · exact Foot.inner hk' hl2 hb
theorem OwnPr.put_fall {v : Value} {r : List FPr} {vss : List (List Value)} (h : OwnPr w base v r vss) {k : Nat} (hk : k < r.length) (hk' : k < vss.length) {U1 U3 : Value} {m c1 : Nat} (ev : vss[k] = [U1, .slice (some ⟨g, off, none⟩) m c1, U3]) {f : FPr} (hf : r[k] = f) {j : Nat} (hj : j < f.falls.length) (x : Int) :
    OwnPr (w.setCell ⟨g, off + j, none⟩ (.int .i64 x)) base v (r.set k ⟨f.calls, f.jumps, f.falls.set j x, f.args⟩) vss ∧ Chg (Foot v vss) w (w.setCell ⟨g, off + j, none⟩ (.int .i64 x)) := by
  subst hf
  have hl2 : 1 < vss[k].length := by rw [ev]; simp
  have e2 : vss[k][1] = .slice (some ⟨g, off, none⟩) m c1 := by simp [ev]
  obtain ⟨e, hi⟩ := OwnG.inn h k hk hk'
  have hi2 : CRow w base 3 1 (.slice (some ⟨g, off, none⟩) m c1) r[k].falls.length (intsV r[k].falls) := by
    have := hi 1 hl2 (by simp [KPr])
    rw [e2] at this; exact this
  obtain ⟨_, _, es, _, _⟩ := hi2.shape
  injection es with _ es _
  subst es
  obtain ⟨g', off', eg, hg, hob, _⟩ := ints_atC hi2 hj
  cases eg
  have hch : Chg (fun b => ob vss[k][1] = some b) w (w.setCell ⟨g, off + j, none⟩ (.int .i64 x)) := Chg.put (S := fun b => ob vss[k][1] = some b) (Chg.refl _ w) (a := ⟨g, off + j, none⟩) (by show ob vss[k][1] = some g; rw [e2]; exact hob) _
  refine ⟨OwnG.turn h hk hk' hl2 ⟨r[k].calls, r[k].jumps, r[k].falls.set j x, r[k].args⟩ (innI (r[k].falls.set j x)) hch ?_ rfl rfl, hch.mono fun b hb => ?_⟩
  · rw [e2]
    have := ints_putC hi2 hj x
    show CRow _ _ _ _ _ (r[k].falls.set j x).length _
    rw [List.length_set]; exact this
  · exact Foot.inner hk' hl2 hb
theorem OwnPr.put_calls {r : List FPr} {vss : List (List Value)} (h : OwnPr w base (.slice (some ⟨g, off, none⟩) n cap) r vss) {k : Nat} (hk : k < r.length) (hk' : k < vss.length) {f : FPr} (hf : r[k] = f) (x : Int) :
    OwnPr (w.setCell ⟨g, off + k * 4, none⟩ (.int .i64 x)) base (.slice (some ⟨g, off, none⟩) n cap) (r.set k ⟨x, f.jumps, f.falls, f.args⟩) vss ∧ Chg (Foot (.slice (some ⟨g, off, none⟩) n cap) vss) w (w.setCell ⟨g, off + k * 4, none⟩ (.int .i64 x)) := by
  subst hf
  obtain ⟨g', off', eg, hg, _, hob, _⟩ := h.at_ hk
  cases eg
  exact ⟨OwnG.put h hk hk' (j := 0) (by decide) (.int .i64 x) ⟨x, r[k].jumps, r[k].falls, r[k].args⟩ (by simp [KPr]) rfl, Chg.put (S := Foot (.slice (some ⟨g, off, none⟩) n cap) vss) (Chg.refl _ w) (a := ⟨g, off + k * 4, none⟩) ⟨_, List.mem_cons_self .., hob⟩ _⟩
end
def callN (bs : List ArgP) (xs : List Int) (j : Nat) : List ArgP := (List.zipWith callA bs xs).take j ++ bs.drop j
theorem callN_zero (bs : List ArgP) (xs : List Int) : callN bs xs 0 = bs := by simp [callN]
theorem callN_len {bs : List ArgP} {xs : List Int} (h : xs.length = bs.length) (j : Nat) : (callN bs xs j).length = bs.length := by simp [callN, h]; omega
theorem callN_full {bs : List ArgP} {xs : List Int} (h : xs.length = bs.length) : callN bs xs xs.length = List.zipWith callA bs xs := by
  unfold callN
  rw [List.take_of_length_le (by simp; omega), List.drop_of_length_le (by omega), List.append_nil]
theorem callN_get? {bs : List ArgP} {xs : List Int} (h : xs.length = bs.length) {j : Nat} (hj : j < bs.length) : (callN bs xs j)[j]? = some bs[j] := by
  have hl : ((List.zipWith callA bs xs).take j).length = j := by simp; omega
  unfold callN
  rw [List.getElem?_append_right (by omega), hl, Nat.sub_self, List.getElem?_drop, Nat.add_zero, List.getElem?_eq_getElem hj]
theorem callN_get {bs : List ArgP} {xs : List Int} (h : xs.length = bs.length) {j : Nat} (hj : j < bs.length) (hj' : j < (callN bs xs j).length) : (callN bs xs j)[j] = bs[j] := by
  have := callN_get? h hj
  rw [List.getElem?_eq_getElem hj'] at this
  exact Option.some.inj this
theorem callN_step {bs : List ArgP} {xs : List Int} (h : xs.length = bs.length) {j : Nat} (hj : j < bs.length) (hx : j < xs.length) : (callN bs xs j).set j (callA bs[j] xs[j]) = callN bs xs (j + 1) := by
  have hz : j < (List.zipWith callA bs xs).length := by simp; omega
  unfold callN
  have hd : bs.drop j = bs[j] :: bs.drop (j + 1) := List.drop_eq_getElem_cons hj
  rw [hd, List.set_append_right _ _ (by simp; omega), List.take_succ_eq_append_getElem hz, List.getElem_zipWith]
  have : j - ((List.zipWith callA bs xs).take j).length = 0 := by simp; omega
  rw [this, List.set_cons_zero, List.append_assoc]; rfl
end Go.Proofs.YtpfgklkdldkajaaDoor

namespace Go.Proofs.YtpfgklkdldkajaaDoor
open Go.RowKit

theorem chg_monoP {S : Nat → Prop} {w w1 w2 : World} (h : Chg S w w1) (k : Chg S w1 w2) : Chg S w w2 := h.trans k (fun _ _ h => h)
theorem argB_of {a : ArgP} (h : argB a = true) : 0 ≤ a.same ∧ a.same ≤ 1073741824 ∧ 0 ≤ a.other ∧ a.other ≤ 1073741824 := by
  unfold argB countB at h
  simp only [Bool.and_eq_true, decide_eq_true_eq] at h
  exact ⟨h.1.2.1, h.1.2.2, h.2.1, h.2.2⟩
set_option maxRecDepth 100000 in
set_option maxHeartbeats 8000000 in
theorem callP_any (g off n cap base k c : Nat) (r : List FPr) (vss : List (List Value)) (f : FPr) (A : Option Addr) (args : List Int) (w : World) (h : OwnPr w base (.slice (some ⟨g, off, none⟩) n cap) r vss) (hk : k < r.length) (hf : r[k] = f) (hlen : args.length = f.args.length)
    (hc : countB f.calls = true) (ha : f.args.all argB = true) (hargs : ∀ W', Chg (Foot (.slice (some ⟨g, off, none⟩) n cap) vss) w W' → ReadsI W' A args) :
    Calls Tryd.prog 49 #[.pointer (some ⟨g, off + k * 4, none⟩), .slice A args.length c] w fun e w' => e = .returned (.tuple #[]) ∧ OwnPr w' base (.slice (some ⟨g, off, none⟩) n cap) (r.set k (callF f args)) vss ∧ Chg (Foot (.slice (some ⟨g, off, none⟩) n cap) vss) w w' := by
  have hn : args.length ≤ 9223372036854775807 := (hargs w (Chg.refl _ _)).1
  obtain ⟨g', off', eg, hg, -, -, hk', A1, c1, A2, c2, A3, c3, ev, i1, i2, i3, d0, -, -, d3, hz⟩ := h.at_ hk
  cases eg
  rw [hf] at ev i3 d0 d3
  obtain ⟨hc0, hc1⟩ : 0 ≤ f.calls ∧ f.calls ≤ 1073741824 := by
    unfold countB at hc
    simpa using hc
  have z0 := hz 0 (by decide)
  rw [Nat.add_zero] at z0
  obtain ⟨q1, q2⟩ := OwnPr.put_calls h hk hk' hf (moreN f.calls)
  have HM := Lib.hid (more_any ⟨g, off + k * 4, none⟩ f.calls w d0 z0 hc0 hc1)
  obtain ⟨w1, hw1⟩ : ∃ w1, w.setCell ⟨g, off + k * 4, none⟩ (.int .i64 (moreN f.calls)) = w1 := ⟨_, rfl⟩
  rw [hw1] at HM q1 q2
  have O1 := Lib.hid q1
  have C1 := Lib.hid q2
  have HA := Lib.hid hargs
  have HLEN := Lib.hid hlen
  have HAB := Lib.hid ha
  have HFK := Lib.hid hf
  have EV := Lib.hid ev
  clear hargs hlen ha hf h i1 i2 i3 q1 q2 d0 d3 hz z0 hc hc0 hc1 hw1
  have HKR := Lib.hid hk
  go_enter Tryd.func49, Tryd.ntmps49
  go_wp2_with fail
  (with_reducible refine HM.out.mono ?_)
  rintro e wq ⟨rfl, rfl⟩
  clear HM
  go_wp2_with fail
  go_loopw [13] (fun i wr => ∃ j : Nat, i = .int .i64 j ∧ j ≤ args.length ∧ OwnPr wr base (.slice (some ⟨g, off, none⟩) n cap) (r.set k ⟨moreN f.calls, f.jumps, f.falls, callN f.args args j⟩) vss ∧ Chg (Foot (.slice (some ⟨g, off, none⟩) n cap) vss) w wr) (fun i _ => args.length - (intOf i).toNat)
  case atStart => exact ⟨0, rfl, Nat.zero_le _, by rw [callN_zero]; exact O1.out, C1.out⟩
  case round =>
    obtain ⟨j, rfl, hj, ho, hch⟩ := hrel
    have HO := Lib.hid ho
    have HC := Lib.hid hch
    by_cases hlt : j < args.length
    case neg =>
      obtain rfl : j = args.length := by omega
      rw [callN_full HLEN.out] at HO
      clear ho hch
      go_wp2_with fail
      go_end0
      exact ⟨rfl, HO.out, HC.out⟩
    have hja : j < f.args.length := by rw [← HLEN.out]; exact hlt
    have hks : k < (r.set k ⟨moreN f.calls, f.jumps, f.falls, callN f.args args j⟩).length := by simpa using HKR.out
    have hcl := callN_len HLEN.out j
    have hjn : j < (callN f.args args j).length := by omega
    have esk : (r.set k (⟨moreN f.calls, f.jumps, f.falls, callN f.args args j⟩ : FPr))[k] = ⟨moreN f.calls, f.jumps, f.falls, callN f.args args j⟩ := List.getElem_set_self _
    obtain ⟨g', off', eg, -, -, -, _, B1, b1, B2, b2, B3, b3, ev2, i1, i2, i3, -, -, -, d3, -⟩ := ho.at_ hks
    cases eg
    simp only [esk] at ev2 i3 d3
    have evv := EV.out.symm.trans ev2
    injection evv with _ evv
    injection evv with _ evv
    injection evv with evv _
    injection evv with e1 e2 e3
    subst e1 e3
    have i3' : CRow wr base 52 3 (.slice A3 (callN f.args args j).length c3) (callN f.args args j).length (argsV (callN f.args args j)) := i3
    obtain ⟨g3, off3, eg3, hg3, -, a0, a1, a2, f0, f1, f2⟩ := args_at i3' hjn
    subst eg3
    rw [callN_get HLEN.out hja hjn] at a0 a1 a2
    obtain ⟨aA, eA, hx⟩ := (HA.out wr hch).at_ hlt
    subst eA
    have hstep := callN_step HLEN.out hja hlt
    obtain ⟨a, ea⟩ : ∃ a, f.args[j] = a := ⟨_, rfl⟩
    obtain ⟨x, ex⟩ : ∃ x, args[j] = x := ⟨_, rfl⟩
    rw [ea] at a0 a1 a2 hstep
    rw [ex] at hx hstep
    have hab := argB_of (List.all_eq_true.1 HAB.out f.args[j] (List.getElem_mem hja))
    rw [ea] at hab
    obtain ⟨s0, s1, o0, o1⟩ := hab
    have ecl : (callN f.args args j).length = f.args.length := hcl
    rw [ecl] at d3
    have hget : ∀ h : j < (callN f.args args j).length, (callN f.args args j)[j] = a := fun h => (callN_get HLEN.out hja h).trans ea
    have HPUT := Lib.hid (fun (W : World) (xs : List ArgP) (hW : OwnPr W base (.slice (some ⟨g, off, none⟩) n cap) (r.set k ⟨moreN f.calls, f.jumps, f.falls, xs⟩) vss) (hjx : j < xs.length) (q : Nat) (hq : q < 3) (u : Value) (y : ArgP) (hy : argC y = (argC xs[j]).set q u) =>
      (show OwnPr (W.setCell ⟨g3, off3 + j * 3 + q, none⟩ u) base (.slice (some ⟨g, off, none⟩) n cap) (r.set k ⟨moreN f.calls, f.jumps, f.falls, xs.set j y⟩) vss ∧ Chg (Foot (.slice (some ⟨g, off, none⟩) n cap) vss) W (W.setCell ⟨g3, off3 + j * 3 + q, none⟩ u) from by
        have hz := OwnPr.put_arg hW (by simpa using HKR.out) hk' EV.out (f := ⟨moreN f.calls, f.jumps, f.falls, xs⟩) (List.getElem_set_self _) hjx hq u y hy
        rwa [List.set_set] at hz))
    have HSTEP := Lib.hid hstep
    have HGET := Lib.hid hget
    have HCL := Lib.hid hcl
    have HJA := Lib.hid hjn
    clear ea ex i1 i2 i3 i3' ev2 hg3 hcl hstep hget ho hch hks esk e2 ecl hjn
    by_cases hso : a.same = 0 ∧ a.other = 0
    · obtain ⟨e1, e2⟩ := hso
      have hcA : callA a x = ⟨x, 1, 0⟩ := by unfold callA; rw [if_pos ⟨e1, e2⟩]
      have p1 := HPUT.out wr _ HO.out HJA.out 0 (by decide) (.int .i64 x) ⟨x, a.same, a.other⟩ (by rw [HGET.out]; rfl)
      obtain ⟨w3, hw3⟩ : ∃ w3, wr.setCell ⟨g3, off3 + j * 3, none⟩ (.int .i64 x) = w3 := ⟨_, rfl⟩
      rw [Nat.add_zero, hw3] at p1
      have p2 := HPUT.out w3 _ p1.1 (by rw [List.length_set]; exact HJA.out) 1 (by decide) (.int .i64 (moreN 0)) ⟨x, 1, 0⟩ (by rw [List.getElem_set_self]; simp [argC, e2]; rfl)
      rw [List.set_set, ← hcA, HSTEP.out] at p2
      have m1 : w3.cell? ⟨g3, off3 + j * 3 + 1, none⟩ = some (.int .i64 0) := by
        rw [← hw3]
        exact (World.cell?_setCell_other (w := wr) (a := ⟨g3, off3 + j * 3, none⟩) (b := ⟨g3, off3 + j * 3 + 1, none⟩) (v := .int .i64 x) (fun e => by injection e with _ e2 _; omega)).trans (a1.trans (by rw [e1]))
      have m2 : w3.frozen? ⟨g3, off3 + j * 3 + 1, none⟩ = false := by rw [← hw3, World.frozen?_setCell]; exact f1
      have HM := Lib.hid (more_any ⟨g3, off3 + j * 3 + 1, none⟩ 0 w3 m1 m2 (by decide) (by decide))
      have t1 : (a.same == 0) = true := by simpa using e1
      have t2 : (a.other == 0) = true := by simpa using e2
      have PF := Lib.hid (And.intro p2.1 (chg_monoP HC.out (chg_monoP p1.2 p2.2)))
      clear p1 p2 m1 m2 e1 e2 hcA s0 s1 o0 o1
      go_wp2_with fail
      (with_reducible refine HM.out.mono ?_)
      rintro e wq ⟨rfl, rfl⟩
      go_wp2_with fail
      go_roundw
      case rel => exact ⟨j + 1, by go_num, by omega, PF.out.1, PF.out.2⟩
      case measure => simp only [intOf]; omega
    · have hso' : ¬ (a.same = 0 ∧ a.other = 0) := hso
      by_cases hv : a.value = x
      · have hcA : callA a x = ⟨a.value, moreN a.same, a.other⟩ := by unfold callA; rw [if_neg hso, if_pos hv]
        have p2 := HPUT.out wr _ HO.out HJA.out 1 (by decide) (.int .i64 (moreN a.same)) ⟨a.value, moreN a.same, a.other⟩ (by rw [HGET.out]; rfl)
        rw [← hcA, HSTEP.out] at p2
        have HM := Lib.hid (more_any ⟨g3, off3 + j * 3 + 1, none⟩ a.same wr a1 f1 s0 s1)
        have t3 : (a.value == x) = true := by simpa using hv
        have PF := Lib.hid (And.intro p2.1 (chg_monoP HC.out p2.2))
        have HSO := Lib.hid hso
        clear p2 hcA hv s0 s1 o0 o1 hso hso'
        by_cases e1 : a.same = 0
        · have t1 : (a.same == 0) = true := by simpa using e1
          have t2 : (a.other == 0) = false := by
            have := HSO.out
            simp; omega
          clear e1
          go_wp2_with fail
          (with_reducible refine HM.out.mono ?_)
          rintro e wq ⟨rfl, rfl⟩
          go_wp2_with fail
          go_roundw
          case rel => exact ⟨j + 1, by go_num, by omega, PF.out.1, PF.out.2⟩
          case measure => simp only [intOf]; omega
        · have t1 : (a.same == 0) = false := by simpa using e1
          clear e1
          go_wp2_with fail
          (with_reducible refine HM.out.mono ?_)
          rintro e wq ⟨rfl, rfl⟩
          go_wp2_with fail
          go_roundw
          case rel => exact ⟨j + 1, by go_num, by omega, PF.out.1, PF.out.2⟩
          case measure => simp only [intOf]; omega
      · have hcA : callA a x = ⟨a.value, a.same, moreN a.other⟩ := by unfold callA; rw [if_neg hso, if_neg hv]
        have p2 := HPUT.out wr _ HO.out HJA.out 2 (by decide) (.int .i64 (moreN a.other)) ⟨a.value, a.same, moreN a.other⟩ (by rw [HGET.out]; rfl)
        rw [← hcA, HSTEP.out] at p2
        have HM := Lib.hid (more_any ⟨g3, off3 + j * 3 + 2, none⟩ a.other wr a2 f2 o0 o1)
        have t3 : (a.value == x) = false := by simpa using hv
        have PF := Lib.hid (And.intro p2.1 (chg_monoP HC.out p2.2))
        have HSO := Lib.hid hso
        clear p2 hcA hv s0 s1 o0 o1 hso hso'
        by_cases e1 : a.same = 0
        · have t1 : (a.same == 0) = true := by simpa using e1
          have t2 : (a.other == 0) = false := by
            have := HSO.out
            simp; omega
          clear e1
          go_wp2_with fail
          (with_reducible refine HM.out.mono ?_)
          rintro e wq ⟨rfl, rfl⟩
          go_wp2_with fail
          go_roundw
          case rel => exact ⟨j + 1, by go_num, by omega, PF.out.1, PF.out.2⟩
          case measure => simp only [intOf]; omega
        · have t1 : (a.same == 0) = false := by simpa using e1
          clear e1
          go_wp2_with fail
          (with_reducible refine HM.out.mono ?_)
          rintro e wq ⟨rfl, rfl⟩
          go_wp2_with fail
          go_roundw
          case rel => exact ⟨j + 1, by go_num, by omega, PF.out.1, PF.out.2⟩
          case measure => simp only [intOf]; omega
theorem branchF_yes (f : FPr) (pc : Nat) : branchF f pc true = ⟨f.calls, f.jumps.set pc (moreN (f.jumps.getD pc 0)), f.falls, f.args⟩ := rfl
theorem branchF_no (f : FPr) (pc : Nat) : branchF f pc false = ⟨f.calls, f.jumps, f.falls.set pc (moreN (f.falls.getD pc 0)), f.args⟩ := rfl
theorem countB_of {n : Int} (h : countB n = true) : 0 ≤ n ∧ n ≤ 1073741824 := by
  unfold countB at h
  simpa using h
set_option maxRecDepth 100000 in
set_option maxHeartbeats 4000000 in
theorem branchP_any (g off n cap base k pc : Nat) (r : List FPr) (vss : List (List Value)) (f : FPr) (jumps : Bool) (w : World) (h : OwnPr w base (.slice (some ⟨g, off, none⟩) n cap) r vss) (hk : k < r.length) (hf : r[k] = f) (hj : pc < f.jumps.length) (hl : pc < f.falls.length)
    (h1 : f.jumps.all countB = true) (h2 : f.falls.all countB = true) :
    Calls Tryd.prog 51 #[.pointer (some ⟨g, off + k * 4, none⟩), .int .i64 pc, .bool jumps] w fun e w' => e = .returned (.tuple #[]) ∧ OwnPr w' base (.slice (some ⟨g, off, none⟩) n cap) (r.set k (branchF f pc jumps)) vss ∧ Chg (Foot (.slice (some ⟨g, off, none⟩) n cap) vss) w w' := by
  obtain ⟨g', off', eg, hg, -, -, hk', A1, c1, A2, c2, A3, c3, ev, i1, i2, i3, -, d1, d2, -, -⟩ := h.at_ hk
  cases eg
  rw [hf] at ev i1 i2 d1 d2
  cases jumps with
  | true =>
    obtain ⟨g1, o1, e1, -, -, x0, z0⟩ := ints_atC (show CRow w base 3 1 (.slice A1 f.jumps.length c1) f.jumps.length (intsV f.jumps) from i1) hj
    subst e1
    obtain ⟨b0, b1⟩ := countB_of (List.all_eq_true.1 h1 _ (List.getElem_mem hj))
    have HM := Lib.hid (more_any ⟨g1, o1 + pc, none⟩ f.jumps[pc] w x0 z0 b0 b1)
    have hp := OwnPr.put_jump h hk hk' ev hf hj (moreN f.jumps[pc])
    have HE := Lib.hid (show branchF f pc true = ⟨f.calls, f.jumps.set pc (moreN f.jumps[pc]), f.falls, f.args⟩ by rw [branchF_yes, List.getD_eq_getElem?_getD, List.getElem?_eq_getElem hj]; rfl)
    have HP := Lib.hid hp
    clear h hf ev i1 i2 i3 h1 h2 x0 z0 b0 b1 hp d2
    go_enter Tryd.func51, Tryd.ntmps51
    go_wp2_with fail
    (with_reducible refine HM.out.mono ?_)
    rintro e wq ⟨rfl, rfl⟩
    clear HM
    go_wp2_with fail
    go_end0
    exact ⟨rfl, by rw [HE.out]; exact HP.out.1, HP.out.2⟩
  | false =>
    obtain ⟨g1, o1, e1, -, -, x0, z0⟩ := ints_atC (show CRow w base 3 1 (.slice A2 f.falls.length c2) f.falls.length (intsV f.falls) from i2) hl
    subst e1
    obtain ⟨b0, b1⟩ := countB_of (List.all_eq_true.1 h2 _ (List.getElem_mem hl))
    have HM := Lib.hid (more_any ⟨g1, o1 + pc, none⟩ f.falls[pc] w x0 z0 b0 b1)
    have hp := OwnPr.put_fall h hk hk' ev hf hl (moreN f.falls[pc])
    have HE := Lib.hid (show branchF f pc false = ⟨f.calls, f.jumps, f.falls.set pc (moreN f.falls[pc]), f.args⟩ by rw [branchF_no, List.getD_eq_getElem?_getD, List.getElem?_eq_getElem hl]; rfl)
    have HP := Lib.hid hp
    clear h hf ev i1 i2 i3 h1 h2 x0 z0 b0 b1 hp d1
    go_enter Tryd.func51, Tryd.ntmps51
    go_wp2_with fail
    (with_reducible refine HM.out.mono ?_)
    rintro e wq ⟨rfl, rfl⟩
    clear HM
    go_wp2_with fail
    go_end0
    exact ⟨rfl, by rw [HE.out]; exact HP.out.1, HP.out.2⟩
end Go.Proofs.YtpfgklkdldkajaaDoor

namespace Go.Proofs.YtpfgklkdldkajaaDoor
open Go.RowKit

theorem called_no {p : List Fn} {r : List FPr} {fn : Int} {args : List Int} (h : calledB p r fn args = false) : calledR p r fn args = [] ∧ calledC p r fn args = 900 := by
  unfold calledR calledC; rw [h]; exact ⟨rfl, rfl⟩
theorem branched_no {p : List Fn} {r : List FPr} {fn pc : Int} {jumps : Bool} (h : branchedB p r fn pc = false) : branchedR p r fn pc jumps = [] ∧ branchedC p r fn pc = 900 := by
  unfold branchedR branchedC; rw [h]; exact ⟨rfl, rfl⟩
theorem called_yes {p : List Fn} {r : List FPr} {n : Nat} {args : List Int} (h : calledB p r n args = true) (hn : n < r.length) : calledR p r n args = r.set n (callF r[n] args) ∧ calledC p r n args = 0 := by
  unfold calledR calledC; rw [h, Int.toNat_natCast, List.getElem?_eq_getElem hn]; exact ⟨rfl, rfl⟩
theorem branched_yes {p : List Fn} {r : List FPr} {n m : Nat} {jumps : Bool} (h : branchedB p r n m = true) (hn : n < r.length) : branchedR p r n m jumps = r.set n (branchF r[n] m jumps) ∧ branchedC p r n m = 0 := by
  unfold branchedR branchedC; rw [h, Int.toNat_natCast, List.getElem?_eq_getElem hn]; exact ⟨rfl, rfl⟩
theorem fprB_of {f : Fn} {r : FPr} (h : fprB f r = true) : countB r.calls = true ∧ r.jumps.length = f.code.length ∧ r.jumps.all countB = true ∧ r.falls.length = f.code.length ∧ r.falls.all countB = true ∧ (r.args.length : Int) = f.args ∧ r.args.all argB = true := by
  unfold fprB countsB at h
  simp only [Bool.and_eq_true, decide_eq_true_eq] at h
  obtain ⟨⟨⟨⟨h1, h2, h3⟩, h4, h5⟩, h6⟩, h7⟩ := h
  exact ⟨h1, by omega, h3, by omega, h5, h6, h7⟩
set_option maxRecDepth 100000 in
set_option maxHeartbeats 8000000 in
theorem calledP_any (p : List Fn) (r : List FPr) (Ap Ar A : Option Addr) (cp cr c : Nat) (fn : Int) (args : List Int) (w : World) (hl : Laid w) (hp : ReadsF w Ap p) (hr : ReadsP w Ar r) (ha : ReadsI w A args) (hz : FitP r) :
    Calls Tryd.prog 20 #[.agg #[.slice Ap p.length cp], .agg #[.slice Ar r.length cr], .int .i64 fn, .slice A args.length c] w (ProfE (calledR p r fn args) (calledC p r fn args) w) := by
  have HR0 := Lib.hid hr
  obtain ⟨w1, hw1⟩ : ∃ w1, w.alloc (.cells #[.slice Ap p.length cp] 24) = w1 := ⟨_, rfl⟩
  obtain ⟨w2, hw2⟩ : ∃ w2, w1.alloc (.cells #[.slice Ar r.length cr] 44) = w2 := ⟨_, rfl⟩
  obtain ⟨w3, hw3⟩ : ∃ w3, w2.alloc (.cells #[.slice none 0 0] 44) = w3 := ⟨_, rfl⟩
  have b1 : Below w.heap.size w w1 := hw1 ▸ below_alloc (Below.refl _ _) _
  have b2 : Below w1.heap.size w1 w2 := hw2 ▸ below_alloc (Below.refl _ _) _
  have b3 : Below w2.heap.size w2 w3 := hw3 ▸ below_alloc (Below.refl _ _) _
  have y1 : w1.heap.size = w.heap.size + 1 := by rw [← hw1]; simp
  have y2 : w2.heap.size = w.heap.size + 2 := by rw [← hw2]; simp [y1]
  have y3 : w3.heap.size = w.heap.size + 3 := by rw [← hw3]; simp [y2]
  have r1 : RowAt 24 w.heap.size [.slice Ap p.length cp] w3 := ((hw1 ▸ RowAt.new _ _ w : RowAt 24 w.heap.size [.slice Ap p.length cp] w1).below b2).below b3
  have r2 : RowAt 44 w1.heap.size [.slice Ar r.length cr] w3 := (hw2 ▸ RowAt.new _ _ w1 : RowAt 44 w1.heap.size [.slice Ar r.length cr] w2).below b3
  have r3 : RowAt 44 w2.heap.size [.slice none 0 0] w3 := hw3 ▸ RowAt.new _ _ w2
  have b03 := below_trans (below_trans b1 b2) b3
  have k1 := row_cell r1
  have k2 := row_cell r2
  have k3 := row_cell r3
  have R1 := Lib.hid r1
  have R2 := Lib.hid r2
  have R3 := Lib.hid r3
  have B3 := Lib.hid b03
  have YY := Lib.hid (And.intro y1 (And.intro y2 y3))
  have H := Lib.hid (mayP_any p r Ap Ar cp cr w3 (hl.below b03) (hp.below b03) (hr.below b03))
  have HP := Lib.hid hp
  have HZ := Lib.hid hz
  have n1 : p.length ≤ 9223372036854775807 := hp.1
  have n2 : r.length ≤ 9223372036854775807 := hr.1
  have n3 : args.length ≤ 9223372036854775807 := ha.1
  have HA := Lib.hid ha
  have HW := Lib.hid (show ∀ W', Below w.heap.size w W' → Calls Tryd.prog 47 #[.slice A args.length c] W' (fun e w' => e = .returned (.bool (args.all isNum)) ∧ w' = W') from fun W' hb => wrapAll_any A c args W' (ha.below hb))
  obtain ⟨R, hR⟩ : ∃ R, calledR p r fn args = R := ⟨_, rfl⟩
  obtain ⟨C, hC⟩ : ∃ C, calledC p r fn args = C := ⟨_, rfl⟩
  rw [hR, hC]
  have HR := Lib.hid hR
  have HC := Lib.hid hC
  obtain ⟨m, hm⟩ : ∃ m, profB p r = m := ⟨_, rfl⟩
  rw [hm] at H
  have HM := Lib.hid hm
  clear hl hp hr hz hR hC hm b1 b2 b3 y1 y2 y3 r1 r2 r3 b03 ha
  go_enter Tryd.func20, Tryd.ntmps20
  go_wp2_with fail
  (with_reducible refine H.out.mono ?_)
  rintro e w4 ⟨rfl, hB⟩
  have B4 := Lib.hid (below_trans B3.out hB)
  replace R1 := Lib.hid (R1.out.below hB)
  replace R2 := Lib.hid (R2.out.below hB)
  replace R3 := Lib.hid (R3.out.below hB)
  have LT3 := Lib.hid (show w3.heap.size ≤ w4.heap.size from hB.size)
  clear H hB k1 k2 k3 hw1 hw2 hw3
  have k1 := row_cell R1.out
  have k2 := row_cell R2.out
  have k3 := row_cell R3.out
  have f3 := R3.out.free 0
  have e1 := World.cell?_setCell_same (w := w4) (a := ⟨w2.heap.size, 0, none⟩) (v := .slice none 0 0) (h := k3)
  have BN := Lib.hid (Below.setCell B4.out (p := ⟨w2.heap.size, 0, none⟩) (by have := YY.out; simp; omega) (.slice none 0 0))
  cases m with
  | false =>
    have HE := Lib.hid (show calledB p r fn args = false by unfold calledB; rw [HM.out]; rfl)
    clear n1
    go_wp2_with fail
    exact bodyPost_ret (v := .tuple #[.agg #[.slice none 0 0], .int .i64 900]) (by simp [results, Tryd.results20, go_sem, e1]) rfl ⟨none, 0, [], by rw [← HR.out, ← HC.out, (called_no HE.out).1, (called_no HE.out).2]; rfl, by rw [← HR.out, (called_no HE.out).1]; exact OwnPr.nil _ _, BN.out⟩
  | true =>
    by_cases c1 : fn < 0
    case pos =>
      have HE := Lib.hid (show calledB p r fn args = false by unfold calledB; rw [decide_eq_false (show ¬ 0 ≤ fn by omega)]; simp)
      have d1 : decide (fn < 0) = true := by simpa using c1
      clear c1
      go_wp2_with fail
      exact bodyPost_ret (v := .tuple #[.agg #[.slice none 0 0], .int .i64 900]) (by simp [results, Tryd.results20, go_sem, e1]) rfl ⟨none, 0, [], by rw [← HR.out, ← HC.out, (called_no HE.out).1, (called_no HE.out).2]; rfl, by rw [← HR.out, (called_no HE.out).1]; exact OwnPr.nil _ _, BN.out⟩
    have d1 : decide (fn < 0) = false := by simpa using c1
    obtain ⟨n, rfl⟩ := Int.eq_ofNat_of_zero_le (Int.not_lt.1 c1)
    by_cases c2 : p.length ≤ n
    case pos =>
      have HE := Lib.hid (show calledB p r n args = false by unfold calledB; rw [decide_eq_false (show ¬ (n : Int) < p.length by omega)]; simp)
      have d2 : decide (p.length ≤ n) = true := by simpa using c2
      clear c1 c2
      go_wp2_with fail
      exact bodyPost_ret (v := .tuple #[.agg #[.slice none 0 0], .int .i64 900]) (by simp [results, Tryd.results20, go_sem, e1]) rfl ⟨none, 0, [], by rw [← HR.out, ← HC.out, (called_no HE.out).1, (called_no HE.out).2]; rfl, by rw [← HR.out, (called_no HE.out).1]; exact OwnPr.nil _ _, BN.out⟩
    have d2 : decide (p.length ≤ n) = false := by simpa using c2
    have hn : n < p.length := by omega
    obtain ⟨hv, hlr, hall⟩ := profB_of HM.out
    have hnr : n < r.length := by omega
    obtain ⟨q1, q2, q3, q4, q5, q6, q7⟩ := fprB_of (hall n hn hnr)
    obtain ⟨ad, eA, Ac, cc, hF⟩ := fnAt_of HP.out B4.out hn
    subst eA
    have g0 := hF.c0
    have g2 := hF.c2
    obtain ⟨f, hf⟩ : ∃ f, r[n] = f := ⟨_, rfl⟩
    rw [hf] at q1 q2 q3 q4 q5 q6 q7
    have HAI := Lib.hid (show argsIn p (n : Int) = p[n].args by unfold argsIn; rw [Int.toNat_natCast, List.getElem?_eq_getElem hn])
    by_cases hla : (args.length : Int) = p[n].args
    case neg =>
      have HE := Lib.hid (show calledB p r n args = false by unfold calledB; rw [HAI.out, decide_eq_false hla]; simp)
      have d3 : ((args.length : Int) != p[n].args) = true := by simpa using hla
      clear c1 c2 hla hv hlr hall hF hf
      go_wp2_with fail
      exact bodyPost_ret (v := .tuple #[.agg #[.slice none 0 0], .int .i64 900]) (by simp [results, Tryd.results20, go_sem, e1]) rfl ⟨none, 0, [], by rw [← HR.out, ← HC.out, (called_no HE.out).1, (called_no HE.out).2]; rfl, by rw [← HR.out, (called_no HE.out).1]; exact OwnPr.nil _ _, BN.out⟩
    have d3 : ((args.length : Int) != p[n].args) = false := by simpa using hla
    obtain ⟨wa, hwa⟩ : ∃ wa, args.all isNum = wa := ⟨_, rfl⟩
    have HNA := Lib.hid hwa
    have HW4 := Lib.hid (HW.out w4 B4.out)
    rw [hwa] at HW4
    clear hwa
    cases wa with
    | false =>
      have HE := Lib.hid (show calledB p r n args = false by unfold calledB; rw [HNA.out]; simp)
      clear c1 c2 hla hv hlr hall hF hf
      go_wp2_with (first | ((go_at_call 47; (with_reducible refine HW4.out.mono ?_); rintro e wq ⟨rfl, eW⟩; subst wq)) | fail)
      exact bodyPost_ret (v := .tuple #[.agg #[.slice none 0 0], .int .i64 900]) (by simp [results, Tryd.results20, go_sem, e1]) rfl ⟨none, 0, [], by rw [← HR.out, ← HC.out, (called_no HE.out).1, (called_no HE.out).2]; rfl, by rw [← HR.out, (called_no HE.out).1]; exact OwnPr.nil _ _, BN.out⟩
    | true =>
      have HE := Lib.hid (called_yes (show calledB p r (n : Int) args = true by unfold calledB; rw [HM.out, decide_eq_true (show (0 : Int) ≤ n by omega), decide_eq_true (show (n : Int) < p.length by omega), HAI.out, decide_eq_true hla, HNA.out]; rfl) hnr (p := p))
      rw [hf] at HE
      have HCP := Lib.hid (copyM_any ⟨w1.heap.size, 0, none⟩ Ar cr r w4 k2 (HR0.out.below B4.out) HZ.out)
      have HFF := Lib.hid hf
      clear c1 c2 hv hlr hall hF q2 q3 q4 q5 hf
      go_wp2_with (first | ((go_at_call 47; (with_reducible refine HW4.out.mono ?_); rintro e wq ⟨rfl, eW⟩; subst wq)) | fail)
      (with_reducible refine HCP.out.mono ?_)
      rintro e w5 ⟨ao, cap, vss, rfl, hown, hB⟩
      obtain ⟨w6, hw6⟩ : ∃ w6, w5.alloc (.cells #[.slice ao r.length cap] 44) = w6 := ⟨_, rfl⟩
      have b56 : Below w5.heap.size w5 w6 := hw6 ▸ below_alloc (Below.refl _ _) _
      have q6' : RowAt 44 w5.heap.size [.slice ao r.length cap] w6 := hw6 ▸ RowAt.new _ _ w5
      have FL := Lib.hid (OwnG.lo hown)
      have B46 := Lib.hid (below_trans hB b56)
      have B6 := Lib.hid (below_trans B4.out B46.out)
      have O6 := Lib.hid (OwnG.below hown b56)
      have Q6 := Lib.hid q6'
      have LT5 := Lib.hid (show w4.heap.size ≤ w5.heap.size from hB.size)
      obtain ⟨g, off, eA, hg, -, -, -⟩ := OwnPr.at_ O6.out hnr
      subst eA
      have qc := row_cell q6'
      have HCL := Lib.hid (callP_any g off r.length cap w4.heap.size n c r vss f A args w6 O6.out hnr HFF.out (by have := q6; omega) q1 q7 (fun W' hk => HA.out.below (Chg.below B6.out hk (fun b ⟨u, hu, e⟩ => by have := (FL.out u hu b e).1; have := LT3.out; have := YY.out; omega))))
      clear hown hB b56 q6' HCP k1 k2 e1 k3 f3 hg
      go_wp2_with fail
      (with_reducible refine HCL.out.mono ?_)
      rintro e w7 ⟨rfl, hown, hch⟩
      have far : ∀ b, b = w5.heap.size ∨ b < w4.heap.size → ¬ Foot (.slice (some ⟨g, off, none⟩) r.length cap) vss b := fun b hb ⟨u, hu, e⟩ => by
        have := FL.out u hu b e; have := LT5.out; omega
      have qc := row_cell (Q6.out.chg hch (far _ (.inl rfl)))
      have R37 := (R3.out.below B46.out).chg hch (far _ (.inr (by have := YY.out; have := LT3.out; omega)))
      have k3 := row_cell R37
      have f3 := R37.free 0
      have B7 := Chg.below B6.out hch (fun b ⟨u, hu, e⟩ => by have := (FL.out u hu b e).1; have := LT3.out; have := YY.out; omega)
      have hl7 : (r.set n (callF f args)).length = r.length := List.length_set
      have kc : Chg (fun b => b = w2.heap.size) w7 (w7.setCell ⟨w2.heap.size, 0, none⟩ (.slice (some ⟨g, off, none⟩) r.length cap)) := Chg.put (S := fun b => b = w2.heap.size) (Chg.refl _ w7) (a := ⟨w2.heap.size, 0, none⟩) rfl _
      have F1 := Lib.hid (OwnG.mono (OwnG.chg hown kc (fun u hu b hb e => by have := (OwnG.lo hown u hu b hb).1; have := LT3.out; have := YY.out; omega)) (show w.heap.size ≤ w4.heap.size by have := LT3.out; have := YY.out; omega))
      have F2 := Lib.hid (Below.setCell B7 (p := ⟨w2.heap.size, 0, none⟩) (by have := YY.out; simp; omega) (.slice (some ⟨g, off, none⟩) r.length cap))
      have e1 := World.cell?_setCell_same (w := w7) (a := ⟨w2.heap.size, 0, none⟩) (v := .slice (some ⟨g, off, none⟩) r.length cap) (h := k3)
      have HL7 := Lib.hid hl7
      clear hown hch far R37 B7 hl7 kc HCL hw6
      go_wp2_with fail
      exact bodyPost_ret (v := .tuple #[.agg #[.slice (some ⟨g, off, none⟩) r.length cap], .int .i64 0]) (by simp [results, Tryd.results20, go_sem, e1]) rfl ⟨some ⟨g, off, none⟩, cap, vss, by rw [← HR.out, ← HC.out, HE.out.1, HE.out.2, HL7.out], by rw [← HR.out, HE.out.1, HL7.out]; exact F1.out, F2.out⟩
set_option maxRecDepth 100000 in
set_option maxHeartbeats 8000000 in
theorem branchedP_any (p : List Fn) (r : List FPr) (Ap Ar : Option Addr) (cp cr : Nat) (fn pc : Int) (jumps : Bool) (w : World) (hl : Laid w) (hp : ReadsF w Ap p) (hr : ReadsP w Ar r) (hz : FitP r) :
    Calls Tryd.prog 22 #[.agg #[.slice Ap p.length cp], .agg #[.slice Ar r.length cr], .int .i64 fn, .int .i64 pc, .bool jumps] w (ProfE (branchedR p r fn pc jumps) (branchedC p r fn pc) w) := by
  have HR0 := Lib.hid hr
  obtain ⟨w1, hw1⟩ : ∃ w1, w.alloc (.cells #[.slice Ap p.length cp] 24) = w1 := ⟨_, rfl⟩
  obtain ⟨w2, hw2⟩ : ∃ w2, w1.alloc (.cells #[.slice Ar r.length cr] 44) = w2 := ⟨_, rfl⟩
  obtain ⟨w3, hw3⟩ : ∃ w3, w2.alloc (.cells #[.slice none 0 0] 44) = w3 := ⟨_, rfl⟩
  have b1 : Below w.heap.size w w1 := hw1 ▸ below_alloc (Below.refl _ _) _
  have b2 : Below w1.heap.size w1 w2 := hw2 ▸ below_alloc (Below.refl _ _) _
  have b3 : Below w2.heap.size w2 w3 := hw3 ▸ below_alloc (Below.refl _ _) _
  have y1 : w1.heap.size = w.heap.size + 1 := by rw [← hw1]; simp
  have y2 : w2.heap.size = w.heap.size + 2 := by rw [← hw2]; simp [y1]
  have y3 : w3.heap.size = w.heap.size + 3 := by rw [← hw3]; simp [y2]
  have r1 : RowAt 24 w.heap.size [.slice Ap p.length cp] w3 := ((hw1 ▸ RowAt.new _ _ w : RowAt 24 w.heap.size [.slice Ap p.length cp] w1).below b2).below b3
  have r2 : RowAt 44 w1.heap.size [.slice Ar r.length cr] w3 := (hw2 ▸ RowAt.new _ _ w1 : RowAt 44 w1.heap.size [.slice Ar r.length cr] w2).below b3
  have r3 : RowAt 44 w2.heap.size [.slice none 0 0] w3 := hw3 ▸ RowAt.new _ _ w2
  have b03 := below_trans (below_trans b1 b2) b3
  have k1 := row_cell r1
  have k2 := row_cell r2
  have k3 := row_cell r3
  have R1 := Lib.hid r1
  have R2 := Lib.hid r2
  have R3 := Lib.hid r3
  have B3 := Lib.hid b03
  have YY := Lib.hid (And.intro y1 (And.intro y2 y3))
  have H := Lib.hid (mayP_any p r Ap Ar cp cr w3 (hl.below b03) (hp.below b03) (hr.below b03))
  have HP := Lib.hid hp
  have HZ := Lib.hid hz
  have n1 : p.length ≤ 9223372036854775807 := hp.1
  have n2 : r.length ≤ 9223372036854775807 := hr.1
  obtain ⟨R, hR⟩ : ∃ R, branchedR p r fn pc jumps = R := ⟨_, rfl⟩
  obtain ⟨C, hC⟩ : ∃ C, branchedC p r fn pc = C := ⟨_, rfl⟩
  rw [hR, hC]
  have HR := Lib.hid hR
  have HC := Lib.hid hC
  obtain ⟨m, hm⟩ : ∃ m, profB p r = m := ⟨_, rfl⟩
  rw [hm] at H
  have HM := Lib.hid hm
  clear hl hp hr hz hR hC hm b1 b2 b3 y1 y2 y3 r1 r2 r3 b03
  go_enter Tryd.func22, Tryd.ntmps22
  go_wp2_with fail
  (with_reducible refine H.out.mono ?_)
  rintro e w4 ⟨rfl, hB⟩
  have B4 := Lib.hid (below_trans B3.out hB)
  replace R1 := Lib.hid (R1.out.below hB)
  replace R2 := Lib.hid (R2.out.below hB)
  replace R3 := Lib.hid (R3.out.below hB)
  have LT3 := Lib.hid (show w3.heap.size ≤ w4.heap.size from hB.size)
  clear H hB k1 k2 k3 hw1 hw2 hw3
  have k1 := row_cell R1.out
  have k2 := row_cell R2.out
  have k3 := row_cell R3.out
  have f3 := R3.out.free 0
  have e1 := World.cell?_setCell_same (w := w4) (a := ⟨w2.heap.size, 0, none⟩) (v := .slice none 0 0) (h := k3)
  have BN := Lib.hid (Below.setCell B4.out (p := ⟨w2.heap.size, 0, none⟩) (by have := YY.out; simp; omega) (.slice none 0 0))
  cases m with
  | false =>
    have HE := Lib.hid (show branchedB p r fn pc = false by unfold branchedB; rw [HM.out]; rfl)
    clear n1
    go_wp2_with fail
    exact bodyPost_ret (v := .tuple #[.agg #[.slice none 0 0], .int .i64 900]) (by simp [results, Tryd.results22, go_sem, e1]) rfl ⟨none, 0, [], by rw [← HR.out, ← HC.out, (branched_no (jumps := jumps) HE.out).1, (branched_no (jumps := jumps) HE.out).2]; rfl, by rw [← HR.out, (branched_no (jumps := jumps) HE.out).1]; exact OwnPr.nil _ _, BN.out⟩
  | true =>
    by_cases c1 : fn < 0
    case pos =>
      have HE := Lib.hid (show branchedB p r fn pc = false by unfold branchedB; rw [decide_eq_false (show ¬ 0 ≤ fn by omega)]; simp)
      have d1 : decide (fn < 0) = true := by simpa using c1
      clear c1
      go_wp2_with fail
      exact bodyPost_ret (v := .tuple #[.agg #[.slice none 0 0], .int .i64 900]) (by simp [results, Tryd.results22, go_sem, e1]) rfl ⟨none, 0, [], by rw [← HR.out, ← HC.out, (branched_no (jumps := jumps) HE.out).1, (branched_no (jumps := jumps) HE.out).2]; rfl, by rw [← HR.out, (branched_no (jumps := jumps) HE.out).1]; exact OwnPr.nil _ _, BN.out⟩
    have d1 : decide (fn < 0) = false := by simpa using c1
    obtain ⟨n, rfl⟩ := Int.eq_ofNat_of_zero_le (Int.not_lt.1 c1)
    by_cases c2 : p.length ≤ n
    case pos =>
      have HE := Lib.hid (show branchedB p r n pc = false by unfold branchedB; rw [decide_eq_false (show ¬ (n : Int) < p.length by omega)]; simp)
      have d2 : decide (p.length ≤ n) = true := by simpa using c2
      clear c1 c2
      go_wp2_with fail
      exact bodyPost_ret (v := .tuple #[.agg #[.slice none 0 0], .int .i64 900]) (by simp [results, Tryd.results22, go_sem, e1]) rfl ⟨none, 0, [], by rw [← HR.out, ← HC.out, (branched_no (jumps := jumps) HE.out).1, (branched_no (jumps := jumps) HE.out).2]; rfl, by rw [← HR.out, (branched_no (jumps := jumps) HE.out).1]; exact OwnPr.nil _ _, BN.out⟩
    have d2 : decide (p.length ≤ n) = false := by simpa using c2
    have hn : n < p.length := by omega
    obtain ⟨hv, hlr, hall⟩ := profB_of HM.out
    have hnr : n < r.length := by omega
    obtain ⟨q1, q2, q3, q4, q5, q6, q7⟩ := fprB_of (hall n hn hnr)
    obtain ⟨ad, eA, Ac, cc, hF⟩ := fnAt_of HP.out B4.out hn
    subst eA
    have g0 := hF.c0
    have g2 := hF.c2
    obtain ⟨f, hf⟩ : ∃ f, r[n] = f := ⟨_, rfl⟩
    rw [hf] at q1 q2 q3 q4 q5 q6 q7
    have HLI := Lib.hid (show lenIn p (n : Int) = p[n].code.length by unfold lenIn; rw [Int.toNat_natCast, List.getElem?_eq_getElem hn])
    by_cases c3 : pc < 0
    case pos =>
      have HE := Lib.hid (show branchedB p r n pc = false by unfold branchedB; rw [decide_eq_false (show ¬ (0 : Int) ≤ pc by omega)]; simp)
      have d3 : decide (pc < 0) = true := by simpa using c3
      clear c1 c2 c3 hv hlr hall hF hf
      go_wp2_with fail
      exact bodyPost_ret (v := .tuple #[.agg #[.slice none 0 0], .int .i64 900]) (by simp [results, Tryd.results22, go_sem, e1]) rfl ⟨none, 0, [], by rw [← HR.out, ← HC.out, (branched_no (jumps := jumps) HE.out).1, (branched_no (jumps := jumps) HE.out).2]; rfl, by rw [← HR.out, (branched_no (jumps := jumps) HE.out).1]; exact OwnPr.nil _ _, BN.out⟩
    have d3 : decide (pc < 0) = false := by simpa using c3
    obtain ⟨m, rfl⟩ := Int.eq_ofNat_of_zero_le (Int.not_lt.1 c3)
    by_cases c4 : p[n].code.length ≤ m
    case pos =>
      have HE := Lib.hid (show branchedB p r n m = false by unfold branchedB; rw [HLI.out, decide_eq_false (show ¬ (m : Int) < p[n].code.length by omega)]; simp)
      have d4 : decide (p[n].code.length ≤ m) = true := by simpa using c4
      clear c1 c2 c3 c4 hv hlr hall hF hf
      go_wp2_with fail
      exact bodyPost_ret (v := .tuple #[.agg #[.slice none 0 0], .int .i64 900]) (by simp [results, Tryd.results22, go_sem, e1]) rfl ⟨none, 0, [], by rw [← HR.out, ← HC.out, (branched_no (jumps := jumps) HE.out).1, (branched_no (jumps := jumps) HE.out).2]; rfl, by rw [← HR.out, (branched_no (jumps := jumps) HE.out).1]; exact OwnPr.nil _ _, BN.out⟩
    have d4 : decide (p[n].code.length ≤ m) = false := by simpa using c4
    have hmc : m < p[n].code.length := by omega
    have n4 : p[n].code.length ≤ 9223372036854775807 := hF.r.1
    obtain ⟨ax, eX, hx, -⟩ := hF.r.at_ (Below.refl _ _) hmc
    subst eX
    have HKI := Lib.hid (show kindIn p (n : Int) (m : Int) = p[n].code[m].kind by unfold kindIn; rw [Int.toNat_natCast, Int.toNat_natCast, List.getElem?_eq_getElem hn]; simp only; rw [List.getElem?_eq_getElem hmc])
    by_cases hkd : p[n].code[m].kind = 13
    case neg =>
      have HE := Lib.hid (show branchedB p r n m = false by unfold branchedB; rw [HKI.out, decide_eq_false hkd]; simp)
      have d5 : (p[n].code[m].kind != 13) = true := by simpa using hkd
      clear c1 c2 c3 c4 hkd hv hlr hall hF hf
      go_wp2_with fail
      exact bodyPost_ret (v := .tuple #[.agg #[.slice none 0 0], .int .i64 900]) (by simp [results, Tryd.results22, go_sem, e1]) rfl ⟨none, 0, [], by rw [← HR.out, ← HC.out, (branched_no (jumps := jumps) HE.out).1, (branched_no (jumps := jumps) HE.out).2]; rfl, by rw [← HR.out, (branched_no (jumps := jumps) HE.out).1]; exact OwnPr.nil _ _, BN.out⟩
    have d5 : (p[n].code[m].kind != 13) = false := by simpa using hkd
    have HE := Lib.hid (branched_yes (jumps := jumps) (show branchedB p r (n : Int) (m : Int) = true by unfold branchedB; rw [HM.out, decide_eq_true (show (0 : Int) ≤ n by omega), decide_eq_true (show (n : Int) < p.length by omega), decide_eq_true (show (0 : Int) ≤ m by omega), HLI.out, decide_eq_true (show (m : Int) < p[n].code.length by omega), HKI.out, decide_eq_true hkd]; rfl) hnr (p := p))
    rw [hf] at HE
    have HCP := Lib.hid (copyM_any ⟨w1.heap.size, 0, none⟩ Ar cr r w4 k2 (HR0.out.below B4.out) HZ.out)
    have HFF := Lib.hid hf
    clear c1 c2 c3 c4 hv hlr hall hF q1 q6 q7 hf hkd
    go_wp2_with fail
    (with_reducible refine HCP.out.mono ?_)
    rintro e w5 ⟨ao, cap, vss, rfl, hown, hB⟩
    obtain ⟨w6, hw6⟩ : ∃ w6, w5.alloc (.cells #[.slice ao r.length cap] 44) = w6 := ⟨_, rfl⟩
    have b56 : Below w5.heap.size w5 w6 := hw6 ▸ below_alloc (Below.refl _ _) _
    have q6' : RowAt 44 w5.heap.size [.slice ao r.length cap] w6 := hw6 ▸ RowAt.new _ _ w5
    have FL := Lib.hid (OwnG.lo hown)
    have B46 := Lib.hid (below_trans hB b56)
    have B6 := Lib.hid (below_trans B4.out B46.out)
    have O6 := Lib.hid (OwnG.below hown b56)
    have Q6 := Lib.hid q6'
    have LT5 := Lib.hid (show w4.heap.size ≤ w5.heap.size from hB.size)
    obtain ⟨g, off, eA, hg, -, -, -⟩ := OwnPr.at_ O6.out hnr
    subst eA
    have qc := row_cell q6'
    have HCL := Lib.hid (branchP_any g off r.length cap w4.heap.size n m r vss f jumps w6 O6.out hnr HFF.out (by omega) (by omega) q3 q5)
    clear hown hB b56 q6' HCP k1 k2 e1 k3 f3 hg
    go_wp2_with fail
    (with_reducible refine HCL.out.mono ?_)
    rintro e w7 ⟨rfl, hown, hch⟩
    have far : ∀ b, b = w5.heap.size ∨ b < w4.heap.size → ¬ Foot (.slice (some ⟨g, off, none⟩) r.length cap) vss b := fun b hb ⟨u, hu, e⟩ => by
      have := FL.out u hu b e; have := LT5.out; omega
    have qc := row_cell (Q6.out.chg hch (far _ (.inl rfl)))
    have R37 := (R3.out.below B46.out).chg hch (far _ (.inr (by have := YY.out; have := LT3.out; omega)))
    have k3 := row_cell R37
    have f3 := R37.free 0
    have B7 := Chg.below B6.out hch (fun b ⟨u, hu, e⟩ => by have := (FL.out u hu b e).1; have := LT3.out; have := YY.out; omega)
    have hl7 : (r.set n (branchF f m jumps)).length = r.length := List.length_set
    have kc : Chg (fun b => b = w2.heap.size) w7 (w7.setCell ⟨w2.heap.size, 0, none⟩ (.slice (some ⟨g, off, none⟩) r.length cap)) := Chg.put (S := fun b => b = w2.heap.size) (Chg.refl _ w7) (a := ⟨w2.heap.size, 0, none⟩) rfl _
    have F1 := Lib.hid (OwnG.mono (OwnG.chg hown kc (fun u hu b hb e => by have := (OwnG.lo hown u hu b hb).1; have := LT3.out; have := YY.out; omega)) (show w.heap.size ≤ w4.heap.size by have := LT3.out; have := YY.out; omega))
    have F2 := Lib.hid (Below.setCell B7 (p := ⟨w2.heap.size, 0, none⟩) (by have := YY.out; simp; omega) (.slice (some ⟨g, off, none⟩) r.length cap))
    have e1 := World.cell?_setCell_same (w := w7) (a := ⟨w2.heap.size, 0, none⟩) (v := .slice (some ⟨g, off, none⟩) r.length cap) (h := k3)
    have HL7 := Lib.hid hl7
    clear hown hch far R37 B7 hl7 kc HCL hw6
    go_wp2_with fail
    exact bodyPost_ret (v := .tuple #[.agg #[.slice (some ⟨g, off, none⟩) r.length cap], .int .i64 0]) (by simp [results, Tryd.results22, go_sem, e1]) rfl ⟨some ⟨g, off, none⟩, cap, vss, by rw [← HR.out, ← HC.out, HE.out.1, HE.out.2, HL7.out], by rw [← HR.out, HE.out.1, HL7.out]; exact F1.out, F2.out⟩
end Go.Proofs.YtpfgklkdldkajaaDoor

namespace Go.Proofs.YtpfgklkdldkajaaDoor
open Go.RowKit

section
variable {P : Program} {Q : Exit → Act → World → Prop}
/-- Each operation of the head waits for earlier ones alone. -/
def backB (md : Region.Mode) (ops : Array Oper) (n : Nat) : Bool := (List.range n).all fun i => match ops[i]? with | some o => o.after.all fun e => !Region.binds md e || decide (e.on < i) | none => false
theorem some_ready {md : Region.Mode} {ops : Array Oper} {n : Nat} (hb : backB md ops n = true) {l : Array Bool} (hl : l.size = ops.size) (hn : n ≤ ops.size) : ∀ i, i < n → l.getD i true = false → Region.ready md ops l ≠ [] := by
  intro i
  induction i using Nat.strongRecOn with
  | _ i ih =>
    intro hi hu
    have hB := List.all_eq_true.1 hb i (List.mem_range.2 hi)
    have hio : i < ops.size := by omega
    rw [Array.getElem?_eq_getElem hio] at hB
    simp only at hB
    by_cases hall : ∀ e ∈ ops[i].after, Region.binds md e = true → l.getD e.on false = true
    · have hm : i ∈ Region.ready md ops l := mem_ready.2 ⟨hu, ops[i], Array.getElem?_eq_getElem hio, hall⟩
      exact fun h0 => by rw [h0] at hm; cases hm
    · have hex : ∃ e, e ∈ ops[i].after ∧ Region.binds md e = true ∧ ¬ l.getD e.on false = true := Classical.byContradiction fun hne => hall fun e he hb2 => Classical.byContradiction fun hf => hne ⟨e, he, hb2, hf⟩
      obtain ⟨e, he, hbe, hf⟩ := hex
      have h2 := Array.all_eq_true'.1 hB e he
      rw [hbe] at h2
      simp only [Bool.not_true, Bool.false_or, decide_eq_true_eq] at h2
      have hel : e.on < l.size := by omega
      exact ih e.on h2 (by omega) (getD_in hel (by simpa using hf))
theorem wpAny_inv_tail {md : Region.Mode} {ops : Array Oper} {n g : Nat} (hn : n < ops.size) (hs : Region.sinkB md ops n = true) (hc : Region.chainB md ops n = true) (hk : backB md ops n = true) (J : Array Bool → Act → World → Prop)
    (hend : ∀ l a w, J l a w → (∀ i, i < n → l.getD i false = true) → HeadInv md ops n l → wpAny P md ops Q g l a w)
    (hstep : ∀ l a w i, J l a w → i < n → i ∈ Region.ready md ops l → wpOp P ops Q i (fun a' w' => J (l.setIfInBounds i true) a' w') a w) :
    ∀ (f : Nat) (l : Array Bool) (a : Act) (w : World), J l a w → HeadInv md ops n l → ((l.toList.take n).count false) = f → wpAny P md ops Q (f + g) l a w := by
  intro f
  induction f with
  | zero =>
    intro l a w hJ inv hcn
    rw [Nat.zero_add]
    refine hend l a w hJ (fun i hi => ?_) inv
    have hil : i < l.size := by rw [inv.size]; omega
    cases hb : l.getD i false with
    | true => rfl
    | false =>
      have e : l[i] = false := by simpa [Array.getD, hil] using hb
      have hm : false ∈ l.toList.take n := by
        rw [List.mem_iff_getElem]
        exact ⟨i, by simp; omega, by simpa using e⟩
      exact absurd (List.count_eq_zero.1 hcn) (by simpa using hm)
  | succ f ih =>
    intro l a w hJ inv hcn
    have hun : ∃ i, i < n ∧ l.getD i true = false := by
      have hm : false ∈ l.toList.take n := List.count_pos_iff.1 (by omega)
      obtain ⟨i, hi, e⟩ := List.mem_iff_getElem.1 hm
      have hi' : i < n ∧ i < l.size := by simp at hi; omega
      exact ⟨i, hi'.1, by simp [Array.getD, hi'.2]; simpa using e⟩
    obtain ⟨i0, hi0, hu0⟩ := hun
    have hw := tail_waits hs hc hn inv (n - i0) i0 rfl hi0 hu0
    have hready : Region.ready md ops l ≠ [] := some_ready hk inv.size (by omega) i0 hi0 hu0
    rw [show f + 1 + g = (f + g) + 1 by omega]
    refine ⟨fun h0 => absurd h0 hready, fun i hi => ?_⟩
    have hin : i < n := Nat.lt_of_not_le fun h => hw i h hi
    refine wpOp_mono (fun a' w' h' => ih _ a' w' h' (inv.set hi hin) ?_) (hstep l a w i hJ hin hi)
    have hu := (mem_ready.1 hi).1
    have hil : i < l.size := by rw [inv.size]; omega
    have e : l.toList[i]'(by simpa using hil) = false := by simpa [Array.getD, hil] using hu
    rw [Array.toList_setIfInBounds, List.take_set]
    have hit : i < (l.toList.take n).length := by simp; omega
    rw [List.count_set hit]
    have e2 : (l.toList.take n)[i] = false := by rw [List.getElem_take]; exact e
    have : 0 < (l.toList.take n).count false := List.count_pos_iff.2 (e2 ▸ List.getElem_mem hit)
    rw [e2]
    simp only [beq_self_eq_true, if_true, show (true == false) = false from rfl, Bool.false_eq_true, if_false]
    omega
theorem ready_needs {md : Region.Mode} {ops : Array Oper} {l : Array Bool} {i k : Nat} (h : i ∈ Region.ready md ops l) (hk : Region.waitsFor md ops i k = true) : l.getD k false = true := by
  obtain ⟨_, o, ho, hall⟩ := mem_ready.1 h
  obtain ⟨o', ho', e, he, hb, hon⟩ := Region.waitsFor_spec hk
  obtain rfl : o' = o := Option.some.inj (ho'.symm.trans ho)
  exact hon ▸ hall e he hb
theorem ready_not {md : Region.Mode} {ops : Array Oper} {l : Array Bool} {i : Nat} (h : i ∈ Region.ready md ops l) : ¬ l.getD i false = true := by
  rw [getD_both (mem_ready.1 h).1]; exact fun h => by cases h
theorem wpOp_via {P : Program} {ops : Array Oper} {Q : Exit → Act → World → Prop} {i : Nat} {K : Act → World → Prop} {a : Act} {w : World} (h : ∀ K' : Act → World → Prop, (∀ a w, K a w → K' a w) → wpOp P ops Q i K' a w) : wpOp P ops Q i K a w := h K (fun _ _ h => h)
theorem set_back {l : Array Bool} {i j : Nat} (hij : i ≠ j) (h : (l.setIfInBounds i true).getD j false = true) : l.getD j false = true := by rwa [getD_set_ne false hij] at h
/-- The region: its head by an invariant, its tail as a list. -/
theorem wp_region_inv_tail {id : Nat} {a : Act} {w : World} {l : List Oper} (n : Nat) (hm : P.follows .mixedOrders = true) (hB : (decide (n < l.length) && Region.sinkB .any l.toArray n && Region.chainB .any l.toArray n && backB .any l.toArray n && Region.seqB .any l.toArray (l.length - n) n ((List.replicate n true) ++ List.replicate (l.length - n) false).toArray) = true)
    (J : Array Bool → Act → World → Prop) (h0 : J (Array.replicate l.length false) a w.drew) (hstep : ∀ lst a w i, J lst a w → i < n → i ∈ Region.ready .any l.toArray lst → wpOp P l.toArray Q i (fun a' w' => J (lst.setIfInBounds i true) a' w') a w)
    (hend : ∀ a w, J ((List.replicate n true) ++ List.replicate (l.length - n) false).toArray a w → wpList P l.toArray Q (l.drop n) a w) : (Code.region id l.toArray true).wp P Q a w := by
  simp only [Bool.and_eq_true, decide_eq_true_eq] at hB
  obtain ⟨⟨⟨⟨hn, hs⟩, hc⟩, hk⟩, hseq⟩ := hB
  have hn' : n < l.toArray.size := by simpa using hn
  refine wp_region_any hm ?_
  have inv0 : HeadInv .any l.toArray n (Array.replicate l.toArray.size false) :=
    ⟨by simp, fun j oj _ hl => (by rw [getD_replicate_false] at hl; cases hl), fun t _ ht => getD_in (by simpa using ht) (getD_replicate_false _ _)⟩
  have H := wpAny_inv_tail (P := P) (Q := Q) (g := l.length - n) hn' hs hc hk J (fun lst a w hJ hall inv => by
    have e : lst = ((List.replicate n true) ++ List.replicate (l.length - n) false).toArray := by
      apply Array.ext
      · rw [inv.size]; simp; omega
      · intro i h1 h2
        have hil : i < l.length := by rw [inv.size] at h1; simpa using h1
        by_cases hi : i < n
        · have := hall i hi
          simp only [Array.getD, h1, dite_true] at this
          simp only [List.getElem_toArray]
          rw [List.getElem_append_left (by simpa using hi)]
          simpa using this
        · have := inv.tail i (by omega) (by simpa using hil)
          simp only [Array.getD, h1, dite_true] at this
          simp only [List.getElem_toArray]
          rw [List.getElem_append_right (by simp; omega)]
          simpa using this
    rw [e] at hJ ⊢
    have := wpAny_of_seq (md := .any) (Q' := Q) (l.drop n) n _ a w (fun j => by simp [List.getElem?_drop]) (by rw [List.length_drop]; exact hseq) (hend a w hJ)
    rwa [List.length_drop] at this) hstep n (Array.replicate l.toArray.size false) a w.drew (by simpa using h0) inv0 (by simp [List.take_replicate]; omega)
  rw [show n + (l.length - n) = l.toArray.size by simp; omega] at H
  exact H
end
end Go.Proofs.YtpfgklkdldkajaaDoor

namespace Go.Proofs.YtpfgklkdldkajaaDoor
open Go.RowKit

theorem below_drwN {w w1 : World} (h : Below w.heap.size w w1) : Below w.heap.size w w1.drew := ⟨h.os, h.tape, h.output, h.size, h.block⟩
theorem made_three (z : Value) (a b c : Value) (h : z.cells = #[a, b, c]) (n : Nat) : madeCells z.cells (n * 3) = (List.replicate n [a, b, c]).flatten.toArray := by
  rw [h]
  apply Array.ext
  · simp [madeCells]
  · intro j h1 h2
    have hfl := flat_len (L := List.replicate n [a, b, c]) (s := 3) (fun l hl => by rw [List.mem_replicate] at hl; rw [hl.2]; rfl)
    rw [List.length_replicate] at hfl
    have hj : j < n * 3 := by simpa [hfl] using h2
    have hk : j / 3 < (List.replicate n [a, b, c]).length := by simp; omega
    have hm : j % 3 < 3 := Nat.mod_lt _ (by decide)
    have h3 := flat_get (L := List.replicate n [a, b, c]) (s := 3) (fun l hl => by rw [List.mem_replicate] at hl; rw [hl.2]; rfl) (i := j / 3) (j := j % 3) hk (by simp; omega) (by rw [hfl]; omega)
    have e : j / 3 * 3 + j % 3 = j := by omega
    simp only [e] at h3
    simp only [List.getElem_toArray]
    rw [h3]
    simp [madeCells]
    rw [List.getElem?_eq_getElem (by simpa using hm)]
    rfl
theorem make_args (n : Nat) (hn : n ≤ 100) (w : World) : (Instr.makeSlice 48 (.int .i64 n) (.int .i64 n)).run Tryd.prog w = .ok (.slice (some ⟨w.heap.size, 0, none⟩) n n) (w.alloc (.cells (argsV (List.replicate n ⟨0, 0, 0⟩)).toArray 52)) := by
  obtain ⟨i, hi, hz, hs, hb⟩ := info_parts info_args
  have h := run_make (P := Tryd.prog) w 48 52 i _ Tryd.underlying48 hi hz .i64 .i64 n n (by omega) (by omega) (by rw [hb]; omega) (by omega)
  rw [hs] at h
  simp only [Int.toNat_natCast] at h
  rw [made_three _ _ _ _ rfl, show (List.replicate n [Value.int .i64 0, .int .i64 0, .int .i64 0]).flatten = argsV (List.replicate n ⟨0, 0, 0⟩) by unfold argsV; rw [List.map_replicate]; rfl] at h
  exact h
/-- What a program's next function adds: rows made behind all that is there, an element laid behind them, 'append'. -/
def NewT (w5 : World) (v : Value) (L M : Nat) (Pack : Value → World → Prop) : Prop := ∀ (W : World) (b1 b2 b3 b4 : Nat), Below w5.heap.size w5 W →
  RowAt 3 b1 (intsV (List.replicate L 0)) W → RowAt 3 b2 (intsV (List.replicate L 0)) W → RowAt 52 b3 (argsV (List.replicate M ⟨0, 0, 0⟩)) W → RowAt 50 b4 [.int .i64 0, .slice (some ⟨b1, 0, none⟩) L L, .slice (some ⟨b2, 0, none⟩) L L, .slice (some ⟨b3, 0, none⟩) M M] W → w5.heap.size ≤ b1 → w5.heap.size ≤ b2 → w5.heap.size ≤ b3 → b1 ≠ b2 → b1 ≠ b3 → b2 ≠ b3 →
  ∃ v' w', (Builtin.append_ #[42, 42] 42 #[v, .slice (some ⟨b4, 0, none⟩) 1 1]).run Tryd.prog W = .ok v' w' ∧ Pack v' w'
theorem row_up {t b : Nat} {vs : List Value} {W : World} {o : Obj} (h : RowAt t b vs W) : RowAt t b vs (W.alloc o) := h.below (below_alloc (Below.refl _ _) _)
theorem build_new {w : World} {N b1 b2 b3 : Nat} (f : Fn) {L M : Nat} (hL : f.code.length = L) (hM : f.args = M) (h1 : RowAt 3 b1 (intsV (List.replicate L 0)) w) (h2 : RowAt 3 b2 (intsV (List.replicate L 0)) w) (h3 : RowAt 52 b3 (argsV (List.replicate M ⟨0, 0, 0⟩)) w)
    (n1 : N ≤ b1) (n2 : N ≤ b2) (n3 : N ≤ b3) (d12 : b1 ≠ b2) (d13 : b1 ≠ b3) (d23 : b2 ≠ b3) (hm : L ≤ 100 ∧ M ≤ 100) :
    Build w N [.slice (some ⟨b1, 0, none⟩) L L, .slice (some ⟨b2, 0, none⟩) L L, .slice (some ⟨b3, 0, none⟩) M M] (KPr.rows (newF f)) := by
  have own : ∀ {b n x : Nat}, ob (.slice (some ⟨b, 0, none⟩) n n) = some x → x = b := fun h => by have := ob_own h; cases this; rfl
  have hml : (100 : Nat) ≤ maxLen := by decide
  have i1 : InnAt w N (.slice (some ⟨b1, 0, none⟩) L L) (innI (List.replicate f.code.length 0)) := by
    rw [hL]
    have := ORow.of_row (sz := 1) h1 n1 (show (intsV (List.replicate L (0 : Int))).length = L * 1 by rw [intsV_len, List.length_replicate, Nat.mul_one]) (by omega)
    show CRow w N 3 1 _ (List.replicate L (0 : Int)).length _
    rw [List.length_replicate]
    exact .inl this
  have i2 : InnAt w N (.slice (some ⟨b2, 0, none⟩) L L) (innI (List.replicate f.code.length 0)) := by
    rw [hL]
    have := ORow.of_row (sz := 1) h2 n2 (show (intsV (List.replicate L (0 : Int))).length = L * 1 by rw [intsV_len, List.length_replicate, Nat.mul_one]) (by omega)
    show CRow w N 3 1 _ (List.replicate L (0 : Int)).length _
    rw [List.length_replicate]
    exact .inl this
  have i3 : InnAt w N (.slice (some ⟨b3, 0, none⟩) M M) (innA (List.replicate f.args.toNat ⟨0, 0, 0⟩)) := by
    rw [hM, Int.toNat_natCast]
    have := ORow.of_row (sz := 3) h3 n3 (show (argsV (List.replicate M (⟨0, 0, 0⟩ : ArgP))).length = M * 3 by rw [argsV_len, List.length_replicate]) (by omega)
    show CRow w N 52 3 _ (List.replicate M (⟨0, 0, 0⟩ : ArgP)).length _
    rw [List.length_replicate]
    exact .inl this
  refine ⟨rfl, fun j hj hj' => ?_, fun j hj j' hj' hne b hb hb2 => ?_⟩
  · match j, hj with
    | 0, _ => exact i1
    | 1, _ => exact i2
    | 2, _ => exact i3
  · match j, hj, j', hj' with
    | 0, _, 0, _ => exact hne rfl
    | 0, _, 1, _ => exact d12 ((own hb).symm.trans (own hb2))
    | 0, _, 2, _ => exact d13 ((own hb).symm.trans (own hb2))
    | 1, _, 0, _ => exact d12 ((own hb2).symm.trans (own hb))
    | 1, _, 1, _ => exact hne rfl
    | 1, _, 2, _ => exact d23 ((own hb).symm.trans (own hb2))
    | 2, _, 0, _ => exact d13 ((own hb2).symm.trans (own hb))
    | 2, _, 1, _ => exact d23 ((own hb2).symm.trans (own hb))
    | 2, _, 2, _ => exact hne rfl
theorem newR_no {p : List Fn} (h : verifyOf p ≠ 0) : newR p = [] ∧ newC p = 900 := by unfold newR newC; rw [if_neg h, if_neg h]; exact ⟨rfl, rfl⟩
theorem newR_yes {p : List Fn} (h : verifyOf p = 0) : newR p = p.map newF ∧ newC p = 0 := by unfold newR newC; rw [if_pos h, if_pos h]; exact ⟨rfl, rfl⟩
theorem map_take {α β : Type} (f : α → β) {xs : List α} {k : Nat} (hk : k < xs.length) : (xs.take (k + 1)).map f = (xs.take k).map f ++ [f xs[k]] := by rw [List.take_succ_eq_append_getElem hk, List.map_append]; rfl
set_option maxRecDepth 100000 in
set_option maxHeartbeats 8000000 in
theorem newP_any (p : List Fn) (Ap : Option Addr) (cp : Nat) (w : World) (hl : Laid w) (hp : ReadsF w Ap p) :
    Calls Tryd.prog 19 #[.agg #[.slice Ap p.length cp]] w (ProfE (newR p) (newC p) w) := by
  obtain ⟨w1, hw1⟩ : ∃ w1, w.alloc (.cells #[.slice Ap p.length cp] 24) = w1 := ⟨_, rfl⟩
  obtain ⟨w2, hw2⟩ : ∃ w2, w1.alloc (.cells #[.slice none 0 0] 44) = w2 := ⟨_, rfl⟩
  have b1 : Below w.heap.size w w1 := hw1 ▸ below_alloc (Below.refl _ _) _
  have b2 : Below w1.heap.size w1 w2 := hw2 ▸ below_alloc (Below.refl _ _) _
  have y1 : w1.heap.size = w.heap.size + 1 := by rw [← hw1]; simp
  have y2 : w2.heap.size = w.heap.size + 2 := by rw [← hw2]; simp [y1]
  have r1 : RowAt 24 w.heap.size [.slice Ap p.length cp] w2 := (hw1 ▸ RowAt.new _ _ w : RowAt 24 w.heap.size [.slice Ap p.length cp] w1).below b2
  have r2 : RowAt 44 w1.heap.size [.slice none 0 0] w2 := hw2 ▸ RowAt.new _ _ w1
  have b02 := below_trans b1 b2
  have k1 := row_cell r1
  have R1 := Lib.hid r1
  have R2 := Lib.hid r2
  have B2 := Lib.hid b02
  have YY := Lib.hid (And.intro y1 y2)
  have H := Lib.hid (program_any p Ap cp w2 (hl.below b02) (hp.below b02))
  have HP := Lib.hid hp
  have n1 : p.length ≤ 9223372036854775807 := hp.1
  obtain ⟨R, hR⟩ : ∃ R, newR p = R := ⟨_, rfl⟩
  obtain ⟨C, hC⟩ : ∃ C, newC p = C := ⟨_, rfl⟩
  rw [hR, hC]
  have HR := Lib.hid hR
  have HC := Lib.hid hC
  obtain ⟨vf, hvf⟩ : ∃ vf, verifyOf p = vf := ⟨_, rfl⟩
  rw [hvf] at H
  have HVF := Lib.hid hvf
  clear hl hp hR hC hvf b1 b2 y1 y2 r1 r2 b02
  go_enter Tryd.func19, Tryd.ntmps19
  go_wp2_with fail
  (with_reducible refine H.out.mono ?_)
  rintro e w3 ⟨rfl, hB⟩
  have B3 := Lib.hid (below_trans B2.out hB)
  replace R1 := Lib.hid (R1.out.below hB)
  replace R2 := Lib.hid (R2.out.below hB)
  have LT2 := Lib.hid (show w2.heap.size ≤ w3.heap.size from hB.size)
  clear H hB k1 hw1 hw2
  have k1 := row_cell R1.out
  have k2 := row_cell R2.out
  have f2 := R2.out.free 0
  by_cases hv : vf = 0
  case neg =>
    have t1 : (vf != 0) = true := by simpa using hv
    have HE := Lib.hid (newR_no (p := p) (by rw [HVF.out]; exact hv))
    have e1 := World.cell?_setCell_same (w := w3) (a := ⟨w1.heap.size, 0, none⟩) (v := .slice none 0 0) (h := k2)
    have BN := Lib.hid (Below.setCell B3.out (p := ⟨w1.heap.size, 0, none⟩) (by have := YY.out; simp; omega) (.slice none 0 0))
    clear hv
    go_wp2_with fail
    exact bodyPost_ret (v := .tuple #[.agg #[.slice none 0 0], .int .i64 900]) (by simp [results, Tryd.results19, go_sem, e1]) rfl ⟨none, 0, [], by rw [← HR.out, ← HC.out, HE.out.1, HE.out.2]; rfl, by rw [← HR.out, HE.out.1]; exact OwnPr.nil _ _, BN.out⟩
  have t1 : (vf != 0) = false := by simpa using hv
  have HV := Lib.hid (HVF.out.trans hv)
  have HPK := Lib.hid (verifyOf_packs HV.out)
  have HE := Lib.hid (newR_yes HV.out)
  obtain ⟨w4, hw4⟩ : ∃ w4, w3.alloc (.cells #[.slice none 0 0] 44) = w4 := ⟨_, rfl⟩
  have b4 : Below w3.heap.size w3 w4 := hw4 ▸ below_alloc (Below.refl _ _) _
  have y4 : w4.heap.size = w3.heap.size + 1 := by rw [← hw4]; simp
  have R4 := Lib.hid (hw4 ▸ RowAt.new _ _ w3 : RowAt 44 w3.heap.size [.slice none 0 0] w4)
  replace R1 := Lib.hid (R1.out.below b4)
  replace R2 := Lib.hid (R2.out.below b4)
  have B4 := Lib.hid (below_trans B3.out b4)
  have Y4 := Lib.hid y4
  clear b4 y4 hv k1 k2 f2
  have k1 := row_cell R1.out
  go_wp2_with fail
  clear k1 t1 hw4
  go_loopw [14] (fun i wr => ∃ (k : Nat) (v : Value) (vss : List (List Value)), i = .int .i64 k ∧ k ≤ p.length ∧ OwnG KPr wr w4.heap.size v ((p.take k).map newF) vss ∧ RowAt 44 w1.heap.size [.slice none 0 0] wr ∧ RowAt 44 w3.heap.size [v] wr ∧ Below w.heap.size w wr ∧ w4.heap.size ≤ wr.heap.size) (fun i _ => p.length - (intOf i).toNat)
  case atStart => exact ⟨0, _, _, rfl, Nat.zero_le _, OwnG.nil _ _ _, R2.out, R4.out, B4.out, Nat.le_refl _⟩
  case round =>
    obtain ⟨k, v, vss, rfl, hk, ho, h2, h4, hb, hsz⟩ := hrel
    have HO := Lib.hid ho
    have H2 := Lib.hid h2
    have H4 := Lib.hid h4
    have HB := Lib.hid hb
    have HSZ := Lib.hid hsz
    clear ho h2 h4 hb hsz R1 R2 R4 B4
    have c4 := row_cell H4.out
    by_cases hlt : k < p.length
    case neg =>
      have hke : p.take k = p := List.take_of_length_le (by omega)
      rw [hke] at HO
      have hsh := HO.out.row.shape
      rw [List.length_map] at hsh
      obtain ⟨ao, cap, rfl, _, _⟩ := hsh
      have kc : Chg (fun b => b = w1.heap.size) wr (wr.setCell ⟨w1.heap.size, 0, none⟩ (.slice ao p.length cap)) := Chg.put (S := fun b => b = w1.heap.size) (Chg.refl _ wr) (a := ⟨w1.heap.size, 0, none⟩) rfl _
      have F1 := Lib.hid (OwnG.mono (OwnG.chg HO.out kc (fun u hu b hb e => by have := (OwnG.lo HO.out u hu b hb).1; have := Y4.out; have := LT2.out; have := YY.out; omega)) (show w.heap.size ≤ w4.heap.size by have := Y4.out; have := LT2.out; have := YY.out; omega))
      have F2 := Lib.hid (Below.setCell HB.out (p := ⟨w1.heap.size, 0, none⟩) (by have := YY.out; simp; omega) (.slice ao p.length cap))
      have k2 := row_cell H2.out
      have f2 := H2.out.free 0
      have e1 := World.cell?_setCell_same (w := wr) (a := ⟨w1.heap.size, 0, none⟩) (v := .slice ao p.length cap) (h := k2)
      clear kc hke
      go_wp2_with fail
      exact bodyPost_ret (v := .tuple #[.agg #[.slice ao p.length cap], .int .i64 0]) (by simp [results, Tryd.results19, go_sem, e1]) rfl ⟨ao, cap, vss, by rw [← HR.out, ← HC.out, HE.out.1, HE.out.2, List.length_map], by rw [← HR.out, HE.out.1, List.length_map]; exact F1.out, F2.out⟩
    obtain ⟨ad, eA, Ac, cc, hF⟩ := fnAt_of HP.out HB.out hlt
    subst eA
    obtain ⟨g0, g1, g2, hrc⟩ := hF
    have hfm := fnMay_of (packs_fn HPK.out hlt)
    obtain ⟨M, hM⟩ := Int.eq_ofNat_of_zero_le hfm.1
    have hM4 : M ≤ 4 := by have := hfm.2.1; omega
    obtain ⟨L, hL⟩ : ∃ L, p[k].code.length = L := ⟨_, rfl⟩
    have hL64 : L ≤ 64 := by have := (codeMay_len hfm.2.2.2.2).2; omega
    have HLF := Lib.hid hL
    have HMF := Lib.hid hM
    rw [hM] at g0
    rw [hL] at g2
    have hnl := hrc.1
    obtain ⟨w5, hw5⟩ : ∃ w5, wr.alloc (.cells #[.int .i64 M, .int .i64 p[k].locals, .slice Ac L cc] 31) = w5 := ⟨_, rfl⟩
    have b5 : Below wr.heap.size wr w5 := hw5 ▸ below_alloc (Below.refl _ _) _
    have r5 : RowAt 31 wr.heap.size [.int .i64 M, .int .i64 p[k].locals, .slice Ac L cc] w5 := hw5 ▸ RowAt.new _ _ wr
    have y5 : w5.heap.size = wr.heap.size + 1 := by rw [← hw5]; simp
    have B5 := Lib.hid b5
    have R5 := Lib.hid r5
    have Y5 := Lib.hid y5
    have H45 := Lib.hid (H4.out.below b5)
    have O5 := Lib.hid (OwnG.below HO.out b5)
    have HVIN := Lib.hid (OwnG.lo HO.out)
    clear hL hM hfm hrc b5 r5 y5 hnl
    go_upto_region 7 with fail
    clear hw5 g0 g1 g2 c4
    have q0 := R5.out.cell (k := 0) (by simp)
    have q2 := R5.out.cell (k := 2) (by simp)
    have q4 := row_cell H45.out
    simp only [List.getElem_cons_zero, List.getElem_cons_succ] at q0 q2
    have HS := Lib.hid (show ∀ W', Below w5.heap.size w5 W' → W'.cell? ⟨wr.heap.size, 0, none⟩ = some (.int .i64 M) ∧ W'.cell? ⟨wr.heap.size, 2, none⟩ = some (.slice Ac L cc) ∧ W'.cell? ⟨w3.heap.size, 0, none⟩ = some v from fun W' h => ⟨cell_below h q0, cell_below h q2, cell_below h q4⟩)
    have MI := make_ints L (by omega)
    have MA := make_args M (by omega)
    obtain ⟨i0, hi0, hz0, hs0, hb0⟩ := info_parts info_fpr
    have HI0 := Lib.hid hi0
    have HZ0 := Lib.hid hz0
    have HS0 := Lib.hid hs0
    have HBY := Lib.hid hb0
    have HT := Lib.hid (show NewT w5 v L M (fun v' w' => (∃ ao' cap', v' = .slice ao' (k + 1) cap') ∧ w'.cell? ⟨w3.heap.size, 0, none⟩ = some v ∧ w'.frozen? ⟨w3.heap.size, 0, none⟩ = false ∧ (w'.cell? ⟨wr.heap.size, 0, none⟩ = some (.int .i64 M) ∧ w'.cell? ⟨wr.heap.size, 2, none⟩ = some (.slice Ac L cc)) ∧ ((w'.setCell ⟨w3.heap.size, 0, none⟩ v').cell? ⟨wr.heap.size, 0, none⟩ = some (.int .i64 M) ∧ (w'.setCell ⟨w3.heap.size, 0, none⟩ v').cell? ⟨wr.heap.size, 2, none⟩ = some (.slice Ac L cc)) ∧
        ∃ vss', OwnG KPr (w'.setCell ⟨w3.heap.size, 0, none⟩ v') w4.heap.size v' ((p.take (k + 1)).map newF) vss' ∧ RowAt 44 w1.heap.size [.slice none 0 0] (w'.setCell ⟨w3.heap.size, 0, none⟩ v') ∧ RowAt 44 w3.heap.size [v'] (w'.setCell ⟨w3.heap.size, 0, none⟩ v') ∧ Below w.heap.size w (w'.setCell ⟨w3.heap.size, 0, none⟩ v') ∧ w4.heap.size ≤ (w'.setCell ⟨w3.heap.size, 0, none⟩ v').heap.size) from by
      intro W1 b1 b2 b3 b4 hbT h1 h2 h3 hEl n1 n2 n3 d12 d13 d23
      have y4 := Y4.out
      have y5 := Y5.out
      have lt2 := LT2.out
      have yy := YY.out
      have hsz := HSZ.out
      have hp8 := (packs_len HPK.out).2
      have hkl : ((p.take k).map newF).length = k := by rw [List.length_map, List.length_take]; omega
      have hW5 : w5.heap.size ≤ W1.heap.size := hbT.size
      have hO1 := OwnG.below O5.out hbT
      have hrow := hO1.row
      rw [hkl] at hrow
      obtain ⟨ao, cap, ev, _, _⟩ := hrow.shape
      subst ev
      obtain ⟨v', w', hrun, hG⟩ := run_append_crow (P := Tryd.prog) W1 42 50 42 42 i0 _ 4 80 Tryd.underlying42 HI0.out HZ0.out HS0.out HBY.out rfl w4.heap.size ao k cap _ hrow (by omega) _ 1 _ (fpr_src (f := newF p[k]) hEl) (by omega) (by unfold maxLen; omega)
      have hlo : ∀ b, ob (.slice ao k cap) = some b → w4.heap.size ≤ b ∧ b < wr.heap.size := fun b e => HVIN.out _ (by simp) _ e
      have hlo2 : ∀ u ∈ Value.slice ao k cap :: vss.flatten, ∀ b, ob u = some b → b < wr.heap.size := fun u hu b e => (HVIN.out u hu b e).2
      have hbd : Build W1 w5.heap.size [.slice (some ⟨b1, 0, none⟩) L L, .slice (some ⟨b2, 0, none⟩) L L, .slice (some ⟨b3, 0, none⟩) M M] (KPr.rows (newF p[k])) := build_new p[k] HLF.out HMF.out h1 h2 h3 n1 n2 n3 d12 d13 d23 ⟨by omega, by omega⟩
      have hgrow := OwnG.grow_build (N := w5.heap.size) (x := newF p[k]) (us := [.slice (some ⟨b1, 0, none⟩) L L, .slice (some ⟨b2, 0, none⟩) L L, .slice (some ⟨b3, 0, none⟩) M M]) hO1 (by rw [hkl]; exact hG) (fun u hu b e => by have := hlo2 u hu b e; omega) hbd (by omega)
      have kc : Chg (fun x => x = w3.heap.size) w' (w'.setCell ⟨w3.heap.size, 0, none⟩ v') := Chg.put (S := fun x => x = w3.heap.size) (Chg.refl _ w') (a := ⟨w3.heap.size, 0, none⟩) rfl _
      have hnv : ∀ x, x < w4.heap.size ∨ x = wr.heap.size → ¬ (ob (.slice ao k cap) = some x) := fun x hx e => by have := hlo x e; omega
      have r1 := (H2.out.below (below_trans B5.out hbT)).chg hG.chg (hnv _ (.inl (by omega)))
      have r3 := (H45.out.below hbT).chg hG.chg (hnv _ (.inl (by omega)))
      have rf := (R5.out.below hbT).chg hG.chg (hnv _ (.inr rfl))
      have rf2 := rf.chg kc (by omega)
      have e3 : (p.take (k + 1)).map newF = (p.take k).map newF ++ [newF p[k]] := map_take newF hlt
      have F1 := OwnG.chg hgrow kc (fun u hu b hb e => by have := (OwnG.lo hgrow u hu b hb).1; omega)
      rw [← e3] at F1
      have F4 := r3.put 0 v'
      simp only [List.set_cons_zero] at F4
      obtain ⟨ao', cap', ev', _, _⟩ := hG.row.shape
      refine ⟨v', w', hrun, ⟨ao', cap', ev'⟩, row_cell r3, r3.free 0, ⟨rf.cell (k := 0) (by simp), rf.cell (k := 2) (by simp)⟩, ⟨rf2.cell (k := 0) (by simp), rf2.cell (k := 2) (by simp)⟩, _, F1, r1.chg kc (by omega), F4, ?_, ?_⟩
      · exact Below.setCell (Chg.below (below_trans HB.out (below_trans B5.out hbT)) hG.chg (fun b e => by have := hlo b e; omega)) (p := ⟨w3.heap.size, 0, none⟩) (by simp; omega) v'
      · have hg1 := hG.kept.size
        simp at hg1 ⊢
        omega)
    clear hi0 hz0 hs0 hb0
    refine wp_region_inv_tail 15 (by kernel_rfl) (by kernel_rfl) (fun lst a W => ∃ x0 x1 x2 x3 x4 x5 x6 x7 x8 x9 x10 x11 x12 x13 x14 : Value, ∃ b5 b9 b12 b14 : Nat, a = ⟨#[.agg #[.slice (some ad) p.length cp], .pointer (some ⟨w.heap.size, 0, none⟩), .pointer (some ⟨w1.heap.size, 0, none⟩), .int .i64 0, .pointer (some ⟨w3.heap.size, 0, none⟩), undef, .pointer (some ⟨wr.heap.size, 0, none⟩), .agg #[.slice (some ad) p.length cp], .int .i64 vf, .bool false, undef, .pointer (some ⟨w.heap.size, 0, none⟩), .slice (some ad) p.length cp, .int .i64 p.length, .int .i64 k, .bool true, .pointer (some (ad.add (k * 3))), .agg #[.int .i64 M, .int .i64 p[k].locals, .slice Ac L cc], x0, x1, x2, x3, x4, x5, x6, x7, x8, x9, x10, x11, x12, x13, x14, u33, u34, u35, undef], []⟩ ∧ Below w5.heap.size w5 W ∧ (lst.getD 0 false = true → x0 = .pointer (some ⟨w3.heap.size, 0, none⟩)) ∧ (lst.getD 1 false = true → x1 = v) ∧ (lst.getD 2 false = true → x2 = .pointer (some ⟨wr.heap.size, 2, none⟩)) ∧ (lst.getD 3 false = true → x3 = .slice Ac L cc) ∧ (lst.getD 4 false = true → x4 = .int .i64 L) ∧ (lst.getD 5 false = true → x5 = .slice (some ⟨b5, 0, none⟩) L L ∧ RowAt 3 b5 (intsV (List.replicate L 0)) W ∧ w5.heap.size ≤ b5) ∧ (lst.getD 6 false = true → x6 = .pointer (some ⟨wr.heap.size, 2, none⟩)) ∧ (lst.getD 7 false = true → x7 = .slice Ac L cc) ∧ (lst.getD 8 false = true → x8 = .int .i64 L) ∧ (lst.getD 9 false = true → x9 = .slice (some ⟨b9, 0, none⟩) L L ∧ RowAt 3 b9 (intsV (List.replicate L 0)) W ∧ w5.heap.size ≤ b9) ∧ (lst.getD 10 false = true → x10 = .pointer (some ⟨wr.heap.size, 0, none⟩)) ∧ (lst.getD 11 false = true → x11 = .int .i64 M) ∧ (lst.getD 12 false = true → x12 = .slice (some ⟨b12, 0, none⟩) M M ∧ RowAt 52 b12 (argsV (List.replicate M ⟨0, 0, 0⟩)) W ∧ w5.heap.size ≤ b12) ∧ (lst.getD 13 false = true → lst.getD 5 false = true ∧ lst.getD 9 false = true ∧ lst.getD 12 false = true ∧ x13 = .agg #[.int .i64 0, .slice (some ⟨b5, 0, none⟩) L L, .slice (some ⟨b9, 0, none⟩) L L, .slice (some ⟨b12, 0, none⟩) M M]) ∧ (lst.getD 14 false = true → lst.getD 13 false = true ∧ x14 = .slice (some ⟨b14, 0, none⟩) 1 1 ∧ RowAt 50 b14 ([.int .i64 0, .slice (some ⟨b5, 0, none⟩) L L, .slice (some ⟨b9, 0, none⟩) L L, .slice (some ⟨b12, 0, none⟩) M M]) W ∧ w5.heap.size ≤ b14) ∧ (lst.getD 5 false = true → lst.getD 9 false = true → b5 ≠ b9) ∧ (lst.getD 5 false = true → lst.getD 12 false = true → b5 ≠ b12) ∧ (lst.getD 9 false = true → lst.getD 12 false = true → b9 ≠ b12)) ⟨u18, u19, u20, u21, u22, u23, u24, u25, u26, u27, u28, u29, u30, u31, u32, 0, 0, 0, 0, rfl, below_drwN (Below.refl _ _), fun h => absurd h (by simp), fun h => absurd h (by simp), fun h => absurd h (by simp), fun h => absurd h (by simp), fun h => absurd h (by simp), fun h => absurd h (by simp), fun h => absurd h (by simp), fun h => absurd h (by simp), fun h => absurd h (by simp), fun h => absurd h (by simp), fun h => absurd h (by simp), fun h => absurd h (by simp), fun h => absurd h (by simp), fun h => absurd h (by simp), fun h => absurd h (by simp), fun h => absurd h (by simp), fun h => absurd h (by simp), fun h => absurd h (by simp)⟩ ?_ ?_
    · rintro lst a W i ⟨x0, x1, x2, x3, x4, x5, x6, x7, x8, x9, x10, x11, x12, x13, x14, b5, b9, b12, b14, rfl, hb, h0, h1, h2, h3, h4, h5, h6, h7, h8, h9, h10, h11, h12, h13, h14, e59, e512, e912⟩ hi hr
      rcases (show i = 0 ∨ i = 1 ∨ i = 2 ∨ i = 3 ∨ i = 4 ∨ i = 5 ∨ i = 6 ∨ i = 7 ∨ i = 8 ∨ i = 9 ∨ i = 10 ∨ i = 11 ∨ i = 12 ∨ i = 13 ∨ i = 14 by omega) with rfl | rfl | rfl | rfl | rfl | rfl | rfl | rfl | rfl | rfl | rfl | rfl | rfl | rfl | rfl
      · have hn := ready_not hr
        refine wpOp_via fun K' hK => ?_
        simp only [wpOp, List.getElem?_toArray, List.getElem?_cons_zero]
        rw [if_pos (by rfl)]
        left
        clear hr 
        go_simp
        exact hK _ _ ⟨(.pointer (some ⟨w3.heap.size, 0, none⟩)), (x1), (x2), (x3), (x4), (x5), (x6), (x7), (x8), (x9), (x10), (x11), (x12), (x13), (x14), b5, b9, b12, b14, rfl, hb, fun _ => rfl, fun h => h1 (set_back (by decide) h), fun h => h2 (set_back (by decide) h), fun h => h3 (set_back (by decide) h), fun h => h4 (set_back (by decide) h), fun h => ⟨(h5 (set_back (by decide) h)).1, (h5 (set_back (by decide) h)).2.1, (h5 (set_back (by decide) h)).2.2⟩, fun h => h6 (set_back (by decide) h), fun h => h7 (set_back (by decide) h), fun h => h8 (set_back (by decide) h), fun h => ⟨(h9 (set_back (by decide) h)).1, (h9 (set_back (by decide) h)).2.1, (h9 (set_back (by decide) h)).2.2⟩, fun h => h10 (set_back (by decide) h), fun h => h11 (set_back (by decide) h), fun h => ⟨(h12 (set_back (by decide) h)).1, (h12 (set_back (by decide) h)).2.1, (h12 (set_back (by decide) h)).2.2⟩, fun h => ⟨getD_set_true (h13 (set_back (by decide) h)).1, getD_set_true (h13 (set_back (by decide) h)).2.1, getD_set_true (h13 (set_back (by decide) h)).2.2.1, (h13 (set_back (by decide) h)).2.2.2⟩, fun h => ⟨getD_set_true (h14 (set_back (by decide) h)).1, (h14 (set_back (by decide) h)).2.1, (h14 (set_back (by decide) h)).2.2.1, (h14 (set_back (by decide) h)).2.2.2⟩, fun h h' => e59 (set_back (by decide) h) (set_back (by decide) h'), fun h h' => e512 (set_back (by decide) h) (set_back (by decide) h'), fun h h' => e912 (set_back (by decide) h) (set_back (by decide) h')⟩
      · have hn := ready_not hr
        have f0 : lst.getD 0 false = true := ready_needs hr (by kernel_rfl)
        obtain rfl := h0 f0
        obtain ⟨s0, s2, s4⟩ := HS.out W hb
        refine wpOp_via fun K' hK => ?_
        simp only [wpOp, List.getElem?_toArray, List.getElem?_cons_succ, List.getElem?_cons_zero]
        rw [if_pos (by rfl)]
        left
        clear hr 
        go_simp
        exact hK _ _ ⟨_, (v), (x2), (x3), (x4), (x5), (x6), (x7), (x8), (x9), (x10), (x11), (x12), (x13), (x14), b5, b9, b12, b14, rfl, hb, fun h => h0 (set_back (by decide) h), fun _ => rfl, fun h => h2 (set_back (by decide) h), fun h => h3 (set_back (by decide) h), fun h => h4 (set_back (by decide) h), fun h => ⟨(h5 (set_back (by decide) h)).1, (h5 (set_back (by decide) h)).2.1, (h5 (set_back (by decide) h)).2.2⟩, fun h => h6 (set_back (by decide) h), fun h => h7 (set_back (by decide) h), fun h => h8 (set_back (by decide) h), fun h => ⟨(h9 (set_back (by decide) h)).1, (h9 (set_back (by decide) h)).2.1, (h9 (set_back (by decide) h)).2.2⟩, fun h => h10 (set_back (by decide) h), fun h => h11 (set_back (by decide) h), fun h => ⟨(h12 (set_back (by decide) h)).1, (h12 (set_back (by decide) h)).2.1, (h12 (set_back (by decide) h)).2.2⟩, fun h => ⟨getD_set_true (h13 (set_back (by decide) h)).1, getD_set_true (h13 (set_back (by decide) h)).2.1, getD_set_true (h13 (set_back (by decide) h)).2.2.1, (h13 (set_back (by decide) h)).2.2.2⟩, fun h => ⟨getD_set_true (h14 (set_back (by decide) h)).1, (h14 (set_back (by decide) h)).2.1, (h14 (set_back (by decide) h)).2.2.1, (h14 (set_back (by decide) h)).2.2.2⟩, fun h h' => e59 (set_back (by decide) h) (set_back (by decide) h'), fun h h' => e512 (set_back (by decide) h) (set_back (by decide) h'), fun h h' => e912 (set_back (by decide) h) (set_back (by decide) h')⟩
      · have hn := ready_not hr
        refine wpOp_via fun K' hK => ?_
        simp only [wpOp, List.getElem?_toArray, List.getElem?_cons_succ, List.getElem?_cons_zero]
        rw [if_pos (by rfl)]
        left
        clear hr 
        go_simp
        exact hK _ _ ⟨(x0), (x1), (.pointer (some ⟨wr.heap.size, 2, none⟩)), (x3), (x4), (x5), (x6), (x7), (x8), (x9), (x10), (x11), (x12), (x13), (x14), b5, b9, b12, b14, rfl, hb, fun h => h0 (set_back (by decide) h), fun h => h1 (set_back (by decide) h), fun _ => rfl, fun h => h3 (set_back (by decide) h), fun h => h4 (set_back (by decide) h), fun h => ⟨(h5 (set_back (by decide) h)).1, (h5 (set_back (by decide) h)).2.1, (h5 (set_back (by decide) h)).2.2⟩, fun h => h6 (set_back (by decide) h), fun h => h7 (set_back (by decide) h), fun h => h8 (set_back (by decide) h), fun h => ⟨(h9 (set_back (by decide) h)).1, (h9 (set_back (by decide) h)).2.1, (h9 (set_back (by decide) h)).2.2⟩, fun h => h10 (set_back (by decide) h), fun h => h11 (set_back (by decide) h), fun h => ⟨(h12 (set_back (by decide) h)).1, (h12 (set_back (by decide) h)).2.1, (h12 (set_back (by decide) h)).2.2⟩, fun h => ⟨getD_set_true (h13 (set_back (by decide) h)).1, getD_set_true (h13 (set_back (by decide) h)).2.1, getD_set_true (h13 (set_back (by decide) h)).2.2.1, (h13 (set_back (by decide) h)).2.2.2⟩, fun h => ⟨getD_set_true (h14 (set_back (by decide) h)).1, (h14 (set_back (by decide) h)).2.1, (h14 (set_back (by decide) h)).2.2.1, (h14 (set_back (by decide) h)).2.2.2⟩, fun h h' => e59 (set_back (by decide) h) (set_back (by decide) h'), fun h h' => e512 (set_back (by decide) h) (set_back (by decide) h'), fun h h' => e912 (set_back (by decide) h) (set_back (by decide) h')⟩
      · have hn := ready_not hr
        have f2 : lst.getD 2 false = true := ready_needs hr (by kernel_rfl)
        obtain rfl := h2 f2
        obtain ⟨s0, s2, s4⟩ := HS.out W hb
        refine wpOp_via fun K' hK => ?_
        simp only [wpOp, List.getElem?_toArray, List.getElem?_cons_succ, List.getElem?_cons_zero]
        rw [if_pos (by rfl)]
        left
        clear hr 
        go_simp
        exact hK _ _ ⟨(x0), (x1), _, (.slice Ac L cc), (x4), (x5), (x6), (x7), (x8), (x9), (x10), (x11), (x12), (x13), (x14), b5, b9, b12, b14, rfl, hb, fun h => h0 (set_back (by decide) h), fun h => h1 (set_back (by decide) h), fun h => h2 (set_back (by decide) h), fun _ => rfl, fun h => h4 (set_back (by decide) h), fun h => ⟨(h5 (set_back (by decide) h)).1, (h5 (set_back (by decide) h)).2.1, (h5 (set_back (by decide) h)).2.2⟩, fun h => h6 (set_back (by decide) h), fun h => h7 (set_back (by decide) h), fun h => h8 (set_back (by decide) h), fun h => ⟨(h9 (set_back (by decide) h)).1, (h9 (set_back (by decide) h)).2.1, (h9 (set_back (by decide) h)).2.2⟩, fun h => h10 (set_back (by decide) h), fun h => h11 (set_back (by decide) h), fun h => ⟨(h12 (set_back (by decide) h)).1, (h12 (set_back (by decide) h)).2.1, (h12 (set_back (by decide) h)).2.2⟩, fun h => ⟨getD_set_true (h13 (set_back (by decide) h)).1, getD_set_true (h13 (set_back (by decide) h)).2.1, getD_set_true (h13 (set_back (by decide) h)).2.2.1, (h13 (set_back (by decide) h)).2.2.2⟩, fun h => ⟨getD_set_true (h14 (set_back (by decide) h)).1, (h14 (set_back (by decide) h)).2.1, (h14 (set_back (by decide) h)).2.2.1, (h14 (set_back (by decide) h)).2.2.2⟩, fun h h' => e59 (set_back (by decide) h) (set_back (by decide) h'), fun h h' => e512 (set_back (by decide) h) (set_back (by decide) h'), fun h h' => e912 (set_back (by decide) h) (set_back (by decide) h')⟩
      · have hn := ready_not hr
        have f3 : lst.getD 3 false = true := ready_needs hr (by kernel_rfl)
        obtain rfl := h3 f3
        refine wpOp_via fun K' hK => ?_
        simp only [wpOp, List.getElem?_toArray, List.getElem?_cons_succ, List.getElem?_cons_zero]
        rw [if_pos (by rfl)]
        left
        clear hr 
        go_simp
        exact hK _ _ ⟨(x0), (x1), (x2), _, (.int .i64 L), (x5), (x6), (x7), (x8), (x9), (x10), (x11), (x12), (x13), (x14), b5, b9, b12, b14, rfl, hb, fun h => h0 (set_back (by decide) h), fun h => h1 (set_back (by decide) h), fun h => h2 (set_back (by decide) h), fun h => h3 (set_back (by decide) h), fun _ => rfl, fun h => ⟨(h5 (set_back (by decide) h)).1, (h5 (set_back (by decide) h)).2.1, (h5 (set_back (by decide) h)).2.2⟩, fun h => h6 (set_back (by decide) h), fun h => h7 (set_back (by decide) h), fun h => h8 (set_back (by decide) h), fun h => ⟨(h9 (set_back (by decide) h)).1, (h9 (set_back (by decide) h)).2.1, (h9 (set_back (by decide) h)).2.2⟩, fun h => h10 (set_back (by decide) h), fun h => h11 (set_back (by decide) h), fun h => ⟨(h12 (set_back (by decide) h)).1, (h12 (set_back (by decide) h)).2.1, (h12 (set_back (by decide) h)).2.2⟩, fun h => ⟨getD_set_true (h13 (set_back (by decide) h)).1, getD_set_true (h13 (set_back (by decide) h)).2.1, getD_set_true (h13 (set_back (by decide) h)).2.2.1, (h13 (set_back (by decide) h)).2.2.2⟩, fun h => ⟨getD_set_true (h14 (set_back (by decide) h)).1, (h14 (set_back (by decide) h)).2.1, (h14 (set_back (by decide) h)).2.2.1, (h14 (set_back (by decide) h)).2.2.2⟩, fun h h' => e59 (set_back (by decide) h) (set_back (by decide) h'), fun h h' => e512 (set_back (by decide) h) (set_back (by decide) h'), fun h h' => e912 (set_back (by decide) h) (set_back (by decide) h')⟩
      · have hn := ready_not hr
        have f4 : lst.getD 4 false = true := ready_needs hr (by kernel_rfl)
        obtain rfl := h4 f4
        refine wpOp_via fun K' hK => ?_
        simp only [wpOp, List.getElem?_toArray, List.getElem?_cons_succ, List.getElem?_cons_zero]
        rw [if_pos (by rfl)]
        left
        clear hr 
        go_simp
        exact hK _ _ ⟨(x0), (x1), (x2), (x3), _, (.slice (some ⟨W.heap.size, 0, none⟩) L L), (x6), (x7), (x8), (x9), (x10), (x11), (x12), (x13), (x14), W.heap.size, b9, b12, b14, rfl, below_alloc hb _, fun h => h0 (set_back (by decide) h), fun h => h1 (set_back (by decide) h), fun h => h2 (set_back (by decide) h), fun h => h3 (set_back (by decide) h), fun h => h4 (set_back (by decide) h), fun _ => ⟨rfl, RowAt.new _ _ W, hb.size⟩, fun h => h6 (set_back (by decide) h), fun h => h7 (set_back (by decide) h), fun h => h8 (set_back (by decide) h), fun h => ⟨(h9 (set_back (by decide) h)).1, row_up (h9 (set_back (by decide) h)).2.1, (h9 (set_back (by decide) h)).2.2⟩, fun h => h10 (set_back (by decide) h), fun h => h11 (set_back (by decide) h), fun h => ⟨(h12 (set_back (by decide) h)).1, row_up (h12 (set_back (by decide) h)).2.1, (h12 (set_back (by decide) h)).2.2⟩, fun h => absurd ((h13 (set_back (by decide) h)).1) hn, fun h => absurd ((h13 (h14 (set_back (by decide) h)).1).1) hn, fun _ h => Nat.ne_of_gt (blk_lt (h9 (set_back (by decide) h)).2.1), fun _ h => Nat.ne_of_gt (blk_lt (h12 (set_back (by decide) h)).2.1), fun h h' => e912 (set_back (by decide) h) (set_back (by decide) h')⟩
      · have hn := ready_not hr
        refine wpOp_via fun K' hK => ?_
        simp only [wpOp, List.getElem?_toArray, List.getElem?_cons_succ, List.getElem?_cons_zero]
        rw [if_pos (by rfl)]
        left
        clear hr 
        go_simp
        exact hK _ _ ⟨(x0), (x1), (x2), (x3), (x4), (x5), (.pointer (some ⟨wr.heap.size, 2, none⟩)), (x7), (x8), (x9), (x10), (x11), (x12), (x13), (x14), b5, b9, b12, b14, rfl, hb, fun h => h0 (set_back (by decide) h), fun h => h1 (set_back (by decide) h), fun h => h2 (set_back (by decide) h), fun h => h3 (set_back (by decide) h), fun h => h4 (set_back (by decide) h), fun h => ⟨(h5 (set_back (by decide) h)).1, (h5 (set_back (by decide) h)).2.1, (h5 (set_back (by decide) h)).2.2⟩, fun _ => rfl, fun h => h7 (set_back (by decide) h), fun h => h8 (set_back (by decide) h), fun h => ⟨(h9 (set_back (by decide) h)).1, (h9 (set_back (by decide) h)).2.1, (h9 (set_back (by decide) h)).2.2⟩, fun h => h10 (set_back (by decide) h), fun h => h11 (set_back (by decide) h), fun h => ⟨(h12 (set_back (by decide) h)).1, (h12 (set_back (by decide) h)).2.1, (h12 (set_back (by decide) h)).2.2⟩, fun h => ⟨getD_set_true (h13 (set_back (by decide) h)).1, getD_set_true (h13 (set_back (by decide) h)).2.1, getD_set_true (h13 (set_back (by decide) h)).2.2.1, (h13 (set_back (by decide) h)).2.2.2⟩, fun h => ⟨getD_set_true (h14 (set_back (by decide) h)).1, (h14 (set_back (by decide) h)).2.1, (h14 (set_back (by decide) h)).2.2.1, (h14 (set_back (by decide) h)).2.2.2⟩, fun h h' => e59 (set_back (by decide) h) (set_back (by decide) h'), fun h h' => e512 (set_back (by decide) h) (set_back (by decide) h'), fun h h' => e912 (set_back (by decide) h) (set_back (by decide) h')⟩
      · have hn := ready_not hr
        have f6 : lst.getD 6 false = true := ready_needs hr (by kernel_rfl)
        obtain rfl := h6 f6
        obtain ⟨s0, s2, s4⟩ := HS.out W hb
        refine wpOp_via fun K' hK => ?_
        simp only [wpOp, List.getElem?_toArray, List.getElem?_cons_succ, List.getElem?_cons_zero]
        rw [if_pos (by rfl)]
        left
        clear hr 
        go_simp
        exact hK _ _ ⟨(x0), (x1), (x2), (x3), (x4), (x5), _, (.slice Ac L cc), (x8), (x9), (x10), (x11), (x12), (x13), (x14), b5, b9, b12, b14, rfl, hb, fun h => h0 (set_back (by decide) h), fun h => h1 (set_back (by decide) h), fun h => h2 (set_back (by decide) h), fun h => h3 (set_back (by decide) h), fun h => h4 (set_back (by decide) h), fun h => ⟨(h5 (set_back (by decide) h)).1, (h5 (set_back (by decide) h)).2.1, (h5 (set_back (by decide) h)).2.2⟩, fun h => h6 (set_back (by decide) h), fun _ => rfl, fun h => h8 (set_back (by decide) h), fun h => ⟨(h9 (set_back (by decide) h)).1, (h9 (set_back (by decide) h)).2.1, (h9 (set_back (by decide) h)).2.2⟩, fun h => h10 (set_back (by decide) h), fun h => h11 (set_back (by decide) h), fun h => ⟨(h12 (set_back (by decide) h)).1, (h12 (set_back (by decide) h)).2.1, (h12 (set_back (by decide) h)).2.2⟩, fun h => ⟨getD_set_true (h13 (set_back (by decide) h)).1, getD_set_true (h13 (set_back (by decide) h)).2.1, getD_set_true (h13 (set_back (by decide) h)).2.2.1, (h13 (set_back (by decide) h)).2.2.2⟩, fun h => ⟨getD_set_true (h14 (set_back (by decide) h)).1, (h14 (set_back (by decide) h)).2.1, (h14 (set_back (by decide) h)).2.2.1, (h14 (set_back (by decide) h)).2.2.2⟩, fun h h' => e59 (set_back (by decide) h) (set_back (by decide) h'), fun h h' => e512 (set_back (by decide) h) (set_back (by decide) h'), fun h h' => e912 (set_back (by decide) h) (set_back (by decide) h')⟩
      · have hn := ready_not hr
        have f7 : lst.getD 7 false = true := ready_needs hr (by kernel_rfl)
        obtain rfl := h7 f7
        refine wpOp_via fun K' hK => ?_
        simp only [wpOp, List.getElem?_toArray, List.getElem?_cons_succ, List.getElem?_cons_zero]
        rw [if_pos (by rfl)]
        left
        clear hr 
        go_simp
        exact hK _ _ ⟨(x0), (x1), (x2), (x3), (x4), (x5), (x6), _, (.int .i64 L), (x9), (x10), (x11), (x12), (x13), (x14), b5, b9, b12, b14, rfl, hb, fun h => h0 (set_back (by decide) h), fun h => h1 (set_back (by decide) h), fun h => h2 (set_back (by decide) h), fun h => h3 (set_back (by decide) h), fun h => h4 (set_back (by decide) h), fun h => ⟨(h5 (set_back (by decide) h)).1, (h5 (set_back (by decide) h)).2.1, (h5 (set_back (by decide) h)).2.2⟩, fun h => h6 (set_back (by decide) h), fun h => h7 (set_back (by decide) h), fun _ => rfl, fun h => ⟨(h9 (set_back (by decide) h)).1, (h9 (set_back (by decide) h)).2.1, (h9 (set_back (by decide) h)).2.2⟩, fun h => h10 (set_back (by decide) h), fun h => h11 (set_back (by decide) h), fun h => ⟨(h12 (set_back (by decide) h)).1, (h12 (set_back (by decide) h)).2.1, (h12 (set_back (by decide) h)).2.2⟩, fun h => ⟨getD_set_true (h13 (set_back (by decide) h)).1, getD_set_true (h13 (set_back (by decide) h)).2.1, getD_set_true (h13 (set_back (by decide) h)).2.2.1, (h13 (set_back (by decide) h)).2.2.2⟩, fun h => ⟨getD_set_true (h14 (set_back (by decide) h)).1, (h14 (set_back (by decide) h)).2.1, (h14 (set_back (by decide) h)).2.2.1, (h14 (set_back (by decide) h)).2.2.2⟩, fun h h' => e59 (set_back (by decide) h) (set_back (by decide) h'), fun h h' => e512 (set_back (by decide) h) (set_back (by decide) h'), fun h h' => e912 (set_back (by decide) h) (set_back (by decide) h')⟩
      · have hn := ready_not hr
        have f8 : lst.getD 8 false = true := ready_needs hr (by kernel_rfl)
        obtain rfl := h8 f8
        refine wpOp_via fun K' hK => ?_
        simp only [wpOp, List.getElem?_toArray, List.getElem?_cons_succ, List.getElem?_cons_zero]
        rw [if_pos (by rfl)]
        left
        clear hr 
        go_simp
        exact hK _ _ ⟨(x0), (x1), (x2), (x3), (x4), (x5), (x6), (x7), _, (.slice (some ⟨W.heap.size, 0, none⟩) L L), (x10), (x11), (x12), (x13), (x14), b5, W.heap.size, b12, b14, rfl, below_alloc hb _, fun h => h0 (set_back (by decide) h), fun h => h1 (set_back (by decide) h), fun h => h2 (set_back (by decide) h), fun h => h3 (set_back (by decide) h), fun h => h4 (set_back (by decide) h), fun h => ⟨(h5 (set_back (by decide) h)).1, row_up (h5 (set_back (by decide) h)).2.1, (h5 (set_back (by decide) h)).2.2⟩, fun h => h6 (set_back (by decide) h), fun h => h7 (set_back (by decide) h), fun h => h8 (set_back (by decide) h), fun _ => ⟨rfl, RowAt.new _ _ W, hb.size⟩, fun h => h10 (set_back (by decide) h), fun h => h11 (set_back (by decide) h), fun h => ⟨(h12 (set_back (by decide) h)).1, row_up (h12 (set_back (by decide) h)).2.1, (h12 (set_back (by decide) h)).2.2⟩, fun h => absurd ((h13 (set_back (by decide) h)).2.1) hn, fun h => absurd ((h13 (h14 (set_back (by decide) h)).1).2.1) hn, fun h _ => Nat.ne_of_lt (blk_lt (h5 (set_back (by decide) h)).2.1), fun h h' => e512 (set_back (by decide) h) (set_back (by decide) h'), fun _ h => Nat.ne_of_gt (blk_lt (h12 (set_back (by decide) h)).2.1)⟩
      · have hn := ready_not hr
        refine wpOp_via fun K' hK => ?_
        simp only [wpOp, List.getElem?_toArray, List.getElem?_cons_succ, List.getElem?_cons_zero]
        rw [if_pos (by rfl)]
        left
        clear hr 
        go_simp
        exact hK _ _ ⟨(x0), (x1), (x2), (x3), (x4), (x5), (x6), (x7), (x8), (x9), (.pointer (some ⟨wr.heap.size, 0, none⟩)), (x11), (x12), (x13), (x14), b5, b9, b12, b14, rfl, hb, fun h => h0 (set_back (by decide) h), fun h => h1 (set_back (by decide) h), fun h => h2 (set_back (by decide) h), fun h => h3 (set_back (by decide) h), fun h => h4 (set_back (by decide) h), fun h => ⟨(h5 (set_back (by decide) h)).1, (h5 (set_back (by decide) h)).2.1, (h5 (set_back (by decide) h)).2.2⟩, fun h => h6 (set_back (by decide) h), fun h => h7 (set_back (by decide) h), fun h => h8 (set_back (by decide) h), fun h => ⟨(h9 (set_back (by decide) h)).1, (h9 (set_back (by decide) h)).2.1, (h9 (set_back (by decide) h)).2.2⟩, fun _ => rfl, fun h => h11 (set_back (by decide) h), fun h => ⟨(h12 (set_back (by decide) h)).1, (h12 (set_back (by decide) h)).2.1, (h12 (set_back (by decide) h)).2.2⟩, fun h => ⟨getD_set_true (h13 (set_back (by decide) h)).1, getD_set_true (h13 (set_back (by decide) h)).2.1, getD_set_true (h13 (set_back (by decide) h)).2.2.1, (h13 (set_back (by decide) h)).2.2.2⟩, fun h => ⟨getD_set_true (h14 (set_back (by decide) h)).1, (h14 (set_back (by decide) h)).2.1, (h14 (set_back (by decide) h)).2.2.1, (h14 (set_back (by decide) h)).2.2.2⟩, fun h h' => e59 (set_back (by decide) h) (set_back (by decide) h'), fun h h' => e512 (set_back (by decide) h) (set_back (by decide) h'), fun h h' => e912 (set_back (by decide) h) (set_back (by decide) h')⟩
      · have hn := ready_not hr
        have f10 : lst.getD 10 false = true := ready_needs hr (by kernel_rfl)
        obtain rfl := h10 f10
        obtain ⟨s0, s2, s4⟩ := HS.out W hb
        refine wpOp_via fun K' hK => ?_
        simp only [wpOp, List.getElem?_toArray, List.getElem?_cons_succ, List.getElem?_cons_zero]
        rw [if_pos (by rfl)]
        left
        clear hr 
        go_simp
        exact hK _ _ ⟨(x0), (x1), (x2), (x3), (x4), (x5), (x6), (x7), (x8), (x9), _, (.int .i64 M), (x12), (x13), (x14), b5, b9, b12, b14, rfl, hb, fun h => h0 (set_back (by decide) h), fun h => h1 (set_back (by decide) h), fun h => h2 (set_back (by decide) h), fun h => h3 (set_back (by decide) h), fun h => h4 (set_back (by decide) h), fun h => ⟨(h5 (set_back (by decide) h)).1, (h5 (set_back (by decide) h)).2.1, (h5 (set_back (by decide) h)).2.2⟩, fun h => h6 (set_back (by decide) h), fun h => h7 (set_back (by decide) h), fun h => h8 (set_back (by decide) h), fun h => ⟨(h9 (set_back (by decide) h)).1, (h9 (set_back (by decide) h)).2.1, (h9 (set_back (by decide) h)).2.2⟩, fun h => h10 (set_back (by decide) h), fun _ => rfl, fun h => ⟨(h12 (set_back (by decide) h)).1, (h12 (set_back (by decide) h)).2.1, (h12 (set_back (by decide) h)).2.2⟩, fun h => ⟨getD_set_true (h13 (set_back (by decide) h)).1, getD_set_true (h13 (set_back (by decide) h)).2.1, getD_set_true (h13 (set_back (by decide) h)).2.2.1, (h13 (set_back (by decide) h)).2.2.2⟩, fun h => ⟨getD_set_true (h14 (set_back (by decide) h)).1, (h14 (set_back (by decide) h)).2.1, (h14 (set_back (by decide) h)).2.2.1, (h14 (set_back (by decide) h)).2.2.2⟩, fun h h' => e59 (set_back (by decide) h) (set_back (by decide) h'), fun h h' => e512 (set_back (by decide) h) (set_back (by decide) h'), fun h h' => e912 (set_back (by decide) h) (set_back (by decide) h')⟩
      · have hn := ready_not hr
        have f11 : lst.getD 11 false = true := ready_needs hr (by kernel_rfl)
        obtain rfl := h11 f11
        refine wpOp_via fun K' hK => ?_
        simp only [wpOp, List.getElem?_toArray, List.getElem?_cons_succ, List.getElem?_cons_zero]
        rw [if_pos (by rfl)]
        left
        clear hr 
        go_simp
        exact hK _ _ ⟨(x0), (x1), (x2), (x3), (x4), (x5), (x6), (x7), (x8), (x9), (x10), _, (.slice (some ⟨W.heap.size, 0, none⟩) M M), (x13), (x14), b5, b9, W.heap.size, b14, rfl, below_alloc hb _, fun h => h0 (set_back (by decide) h), fun h => h1 (set_back (by decide) h), fun h => h2 (set_back (by decide) h), fun h => h3 (set_back (by decide) h), fun h => h4 (set_back (by decide) h), fun h => ⟨(h5 (set_back (by decide) h)).1, row_up (h5 (set_back (by decide) h)).2.1, (h5 (set_back (by decide) h)).2.2⟩, fun h => h6 (set_back (by decide) h), fun h => h7 (set_back (by decide) h), fun h => h8 (set_back (by decide) h), fun h => ⟨(h9 (set_back (by decide) h)).1, row_up (h9 (set_back (by decide) h)).2.1, (h9 (set_back (by decide) h)).2.2⟩, fun h => h10 (set_back (by decide) h), fun h => h11 (set_back (by decide) h), fun _ => ⟨rfl, RowAt.new _ _ W, hb.size⟩, fun h => absurd ((h13 (set_back (by decide) h)).2.2.1) hn, fun h => absurd ((h13 (h14 (set_back (by decide) h)).1).2.2.1) hn, fun h h' => e59 (set_back (by decide) h) (set_back (by decide) h'), fun h _ => Nat.ne_of_lt (blk_lt (h5 (set_back (by decide) h)).2.1), fun h _ => Nat.ne_of_lt (blk_lt (h9 (set_back (by decide) h)).2.1)⟩
      · have hn := ready_not hr
        have f5 : lst.getD 5 false = true := ready_needs hr (by kernel_rfl)
        obtain ⟨rfl, r5, n5⟩ := h5 f5
        have f9 : lst.getD 9 false = true := ready_needs hr (by kernel_rfl)
        obtain ⟨rfl, r9, n9⟩ := h9 f9
        have f12 : lst.getD 12 false = true := ready_needs hr (by kernel_rfl)
        obtain ⟨rfl, r12, n12⟩ := h12 f12
        refine wpOp_via fun K' hK => ?_
        simp only [wpOp, List.getElem?_toArray, List.getElem?_cons_succ, List.getElem?_cons_zero]
        rw [if_pos (by rfl)]
        left
        clear hr 
        go_simp
        exact hK _ _ ⟨(x0), (x1), (x2), (x3), (x4), _, (x6), (x7), (x8), _, (x10), (x11), _, (.agg #[.int .i64 0, .slice (some ⟨b5, 0, none⟩) L L, .slice (some ⟨b9, 0, none⟩) L L, .slice (some ⟨b12, 0, none⟩) M M]), (x14), b5, b9, b12, b14, rfl, hb, fun h => h0 (set_back (by decide) h), fun h => h1 (set_back (by decide) h), fun h => h2 (set_back (by decide) h), fun h => h3 (set_back (by decide) h), fun h => h4 (set_back (by decide) h), fun h => ⟨(h5 (set_back (by decide) h)).1, (h5 (set_back (by decide) h)).2.1, (h5 (set_back (by decide) h)).2.2⟩, fun h => h6 (set_back (by decide) h), fun h => h7 (set_back (by decide) h), fun h => h8 (set_back (by decide) h), fun h => ⟨(h9 (set_back (by decide) h)).1, (h9 (set_back (by decide) h)).2.1, (h9 (set_back (by decide) h)).2.2⟩, fun h => h10 (set_back (by decide) h), fun h => h11 (set_back (by decide) h), fun h => ⟨(h12 (set_back (by decide) h)).1, (h12 (set_back (by decide) h)).2.1, (h12 (set_back (by decide) h)).2.2⟩, fun _ => ⟨getD_set_true f5, getD_set_true f9, getD_set_true f12, rfl⟩, fun h => ⟨getD_set_true (h14 (set_back (by decide) h)).1, (h14 (set_back (by decide) h)).2.1, (h14 (set_back (by decide) h)).2.2.1, (h14 (set_back (by decide) h)).2.2.2⟩, fun h h' => e59 (set_back (by decide) h) (set_back (by decide) h'), fun h h' => e512 (set_back (by decide) h) (set_back (by decide) h'), fun h h' => e912 (set_back (by decide) h) (set_back (by decide) h')⟩
      · have hn := ready_not hr
        have f13 : lst.getD 13 false = true := ready_needs hr (by kernel_rfl)
        obtain ⟨g5, g9, g12, rfl⟩ := h13 f13
        obtain ⟨rfl, r5, n5⟩ := h5 g5
        obtain ⟨rfl, r9, n9⟩ := h9 g9
        obtain ⟨rfl, r12, n12⟩ := h12 g12
        refine wpOp_via fun K' hK => ?_
        simp only [wpOp, List.getElem?_toArray, List.getElem?_cons_succ, List.getElem?_cons_zero]
        rw [if_pos (by rfl)]
        left
        clear hr 
        go_simp
        exact hK _ _ ⟨(x0), (x1), (x2), (x3), (x4), _, (x6), (x7), (x8), _, (x10), (x11), _, _, (.slice (some ⟨W.heap.size, 0, none⟩) 1 1), b5, b9, b12, W.heap.size, rfl, below_alloc hb _, fun h => h0 (set_back (by decide) h), fun h => h1 (set_back (by decide) h), fun h => h2 (set_back (by decide) h), fun h => h3 (set_back (by decide) h), fun h => h4 (set_back (by decide) h), fun h => ⟨(h5 (set_back (by decide) h)).1, row_up (h5 (set_back (by decide) h)).2.1, (h5 (set_back (by decide) h)).2.2⟩, fun h => h6 (set_back (by decide) h), fun h => h7 (set_back (by decide) h), fun h => h8 (set_back (by decide) h), fun h => ⟨(h9 (set_back (by decide) h)).1, row_up (h9 (set_back (by decide) h)).2.1, (h9 (set_back (by decide) h)).2.2⟩, fun h => h10 (set_back (by decide) h), fun h => h11 (set_back (by decide) h), fun h => ⟨(h12 (set_back (by decide) h)).1, row_up (h12 (set_back (by decide) h)).2.1, (h12 (set_back (by decide) h)).2.2⟩, fun h => ⟨getD_set_true (h13 (set_back (by decide) h)).1, getD_set_true (h13 (set_back (by decide) h)).2.1, getD_set_true (h13 (set_back (by decide) h)).2.2.1, (h13 (set_back (by decide) h)).2.2.2⟩, fun _ => ⟨getD_set_true f13, rfl, RowAt.new _ _ W, hb.size⟩, fun h h' => e59 (set_back (by decide) h) (set_back (by decide) h'), fun h h' => e512 (set_back (by decide) h) (set_back (by decide) h'), fun h h' => e912 (set_back (by decide) h) (set_back (by decide) h')⟩
    rintro a W ⟨x0, x1, x2, x3, x4, x5, x6, x7, x8, x9, x10, x11, x12, x13, x14, b5, b9, b12, b14, rfl, hb, h0, h1, h2, h3, h4, h5, h6, h7, h8, h9, h10, h11, h12, h13, h14, e59, e512, e912⟩
    have T : ∀ j, j < 15 → ((List.replicate 15 true) ++ List.replicate (18 - 15) false).toArray.getD j false = true := fun j hj => by
      rcases (show j = 0 ∨ j = 1 ∨ j = 2 ∨ j = 3 ∨ j = 4 ∨ j = 5 ∨ j = 6 ∨ j = 7 ∨ j = 8 ∨ j = 9 ∨ j = 10 ∨ j = 11 ∨ j = 12 ∨ j = 13 ∨ j = 14 by omega) with rfl | rfl | rfl | rfl | rfl | rfl | rfl | rfl | rfl | rfl | rfl | rfl | rfl | rfl | rfl <;> rfl
    obtain rfl := h1 (T 1 (by decide))
    obtain ⟨rfl, r5, n5⟩ := h5 (T 5 (by decide))
    obtain ⟨rfl, r9, n9⟩ := h9 (T 9 (by decide))
    obtain ⟨rfl, r12, n12⟩ := h12 (T 12 (by decide))
    obtain ⟨-, rfl, r14, n14⟩ := h14 (T 14 (by decide))
    obtain ⟨v', w', hrun, ⟨ao', cap', rfl⟩, p3, f3, -, -, hpk⟩ := HT.out W b5 b9 b12 b14 hb r5 r9 r12 r14 n5 n9 n12 (e59 (T 5 (by decide)) (T 9 (by decide))) (e512 (T 5 (by decide)) (T 12 (by decide))) (e912 (T 9 (by decide)) (T 12 (by decide)))
    have HPK2 := Lib.hid hpk
    clear hpk h0 h1 h2 h3 h4 h5 h6 h7 h8 h9 h10 h11 h12 h13 h14 e59 e512 e912 T r5 r9 r12 r14 n5 n9 n12 n14 MI MA HT HS
    simp only [List.drop_succ_cons, List.drop_zero]
    refine wpList_append_run _ rfl _ _ _ _ rfl _ _ _ _ rfl rfl hrun ?_
    obtain ⟨vss', F1, F2, F3, F4, F5⟩ := HPK2.out
    have HFF := Lib.hid (And.intro F1 (And.intro F2 (And.intro F3 (And.intro F4 F5))))
    clear F1 F2 F3 F4 F5 HPK2
    go_wp2_with fail
    go_roundw
    case rel => exact ⟨k + 1, _, _, by go_num, by omega, HFF.out.1, HFF.out.2.1, HFF.out.2.2.1, HFF.out.2.2.2.1, HFF.out.2.2.2.2⟩
    case measure => simp only [intOf]; omega
end Go.Proofs.YtpfgklkdldkajaaDoor
