/- The document's arena: each of its methods answers as the same plain functions say. Conditions: its arena lies in memory as its slots say. -/
import Derived.Test.YtjjnccllamgbaaaDoorAny
namespace Go.Proofs.YtjjnccllamgbaaaDoor
open Go.RowKit

set_option maxRecDepth 100000 in
set_option maxHeartbeats 1000000 in
theorem is_any (g gs : Nat) (xs : List Slot) (s n t : Int) (w : World) (h : ArenaAt 46 w g gs xs) :
    Calls Tryd.prog 27 #[.pointer (some ⟨g, 0, none⟩), .int .i64 s, .int .i64 n, .int .i64 t] w fun e w' => e = .returned (.bool (atB xs s n [t])) ∧ w = w' := by
  have hh := h.head
  by_cases h0 : 0 ≤ s
  · obtain ⟨k, rfl⟩ : ∃ k : Nat, s = k := ⟨s.toNat, by omega⟩
    by_cases hk : k < xs.length
    · obtain ⟨c0, c1, _, _⟩ := h.cell hk
      have e : atB xs (k : Int) n [t] = (xs[k].gen == n && xs[k].state == t) := by
        unfold atB; rw [Int.toNat_natCast, List.getElem?_eq_getElem hk]; simp; rfl
      have h1 : decide (k < xs.length) = true := by simpa using hk
      have E := Lib.hid e
      clear h e
      by_cases hg : xs[k].gen = n
      · have hg' : (xs[k].gen == n) = true := by simpa using hg
        rw [E.out, hg']
        clear hg
        go_enter Tryd.func27, Tryd.ntmps27
        go_wp2
        go_ret
        exact ⟨rfl, rfl⟩
      · have hg' : (xs[k].gen == n) = false := by simpa using hg
        rw [E.out, hg']
        clear hg
        go_enter Tryd.func27, Tryd.ntmps27
        go_wp2
        go_ret
        exact ⟨rfl, rfl⟩
    · have e : atB xs (k : Int) n [t] = false := by
        unfold atB; rw [Int.toNat_natCast, List.getElem?_eq_none (by omega)]; simp
      have h1 : decide (k < xs.length) = false := by simpa using hk
      rw [e]
      clear e
      go_enter Tryd.func27, Tryd.ntmps27
      go_wp2
      go_ret
      exact ⟨rfl, rfl⟩
  · have e : atB xs s n [t] = false := by unfold atB; simp; omega
    have h1 : decide (0 ≤ s) = false := by simpa using h0
    rw [e]
    clear e
    go_enter Tryd.func27, Tryd.ntmps27
    go_wp2
    go_ret
    exact ⟨rfl, rfl⟩

set_option maxHeartbeats 1000000 in
theorem rpublish_do {w wi : World} {g gs : Nat} {xs : List Slot} (h : Mine 46 w g gs xs wi) (s n : Int) :
    Calls Tryd.prog 15 #[.pointer (some ⟨g, 0, none⟩), .int .i64 s, .int .i64 n] wi (Done 46 w g gs (pubF xs s n).1 (pubF xs s n).2 wi) := by
  unfold pubF
  have HI := Lib.hid (is_any g gs xs s n 1 wi h.at_)
  have hh := h.at_.head
  cases hb : atB xs s n [1] with
  | false =>
    rw [hb] at HI
    simp only [Bool.false_eq_true, if_false]
    go_enter Tryd.func15, Tryd.ntmps15
    go_wp2_with fail
    refine HI.out.mono ?_
    rintro e w1 ⟨rfl, rfl⟩
    go_wp2
    go_ret
    exact ⟨rfl, h, Keeps.of_below (Below.refl _ _)⟩
  | true =>
    rw [hb] at HI
    obtain ⟨k, hk, rfl, _, _⟩ := atB_yes hb
    rw [if_pos rfl, Int.toNat_natCast, slotAt_in hk]
    clear hb
    obtain ⟨c0, c1, c2, c3⟩ := h.at_.cell hk
    have f1 := h.at_.free (k * 4 + 1)
    have H1 := Lib.hid h
    clear h
    go_enter Tryd.func15, Tryd.ntmps15
    go_wp2_with fail
    refine HI.out.mono ?_
    rintro e w1 ⟨rfl, rfl⟩
    go_wp2
    go_ret
    exact ⟨rfl, H1.out.step (H1.out.at_.put hk 1 (by omega) (.int .i64 2) { xs[k] with state := 2 } rfl) ((Keeps.of_below (Below.refl _ _)).put _ _), (Keeps.of_below (Below.refl _ _)).put _ _⟩

set_option maxHeartbeats 1000000 in
theorem rretire_do {w wi : World} {g gs : Nat} {xs : List Slot} (h : Mine 46 w g gs xs wi) (s n q : Int) :
    Calls Tryd.prog 17 #[.pointer (some ⟨g, 0, none⟩), .int .i64 s, .int .i64 n, .int .i64 q] wi (Done 46 w g gs (retF xs s n q).1 (retF xs s n q).2 wi) := by
  unfold retF
  have HI := Lib.hid (is_any g gs xs s n 2 wi h.at_)
  have hh := h.at_.head
  cases hb : atB xs s n [2] with
  | false =>
    rw [hb] at HI
    simp only [Bool.false_eq_true, if_false, Bool.false_and]
    go_enter Tryd.func17, Tryd.ntmps17
    go_wp2_with fail
    refine HI.out.mono ?_
    rintro e w1 ⟨rfl, rfl⟩
    go_wp2
    go_ret
    exact ⟨rfl, h, Keeps.of_below (Below.refl _ _)⟩
  | true =>
    rw [hb] at HI
    obtain ⟨k, hk, rfl, _, _⟩ := atB_yes hb
    clear hb
    by_cases hq : q < 0
    · have hq' : decide (q < 0) = true := by simpa using hq
      have e : (true && decide (0 ≤ q)) = false := by simp; omega
      rw [e]
      simp only [Bool.false_eq_true, if_false]
      clear e hq
      go_enter Tryd.func17, Tryd.ntmps17
      go_wp2_with fail
      refine HI.out.mono ?_
      rintro e w1 ⟨rfl, rfl⟩
      go_wp2
      go_ret
      exact ⟨rfl, h, Keeps.of_below (Below.refl _ _)⟩
    · have hq' : decide (q < 0) = false := by simpa using hq
      have e : (true && decide (0 ≤ q)) = true := by simp; omega
      rw [e, if_pos rfl, Int.toNat_natCast, slotAt_in hk]
      clear e hq
      obtain ⟨c0, c1, c2, c3⟩ := h.at_.cell hk
      have f1 := h.at_.free (k * 4 + 1)
      have f3 := h.at_.free (k * 4 + 3)
      have h2 := h.at_.put hk 1 (by omega) (.int .i64 3) { xs[k] with state := 3 } rfl
      have h3 := h2.put (k := k) (by simpa using hk) 3 (by omega) (.int .i64 q) { xs[k] with state := 3, stamp := q } (by simp [sCells])
      rw [List.set_set] at h3
      have hg := h2.head
      rw [List.length_set] at hg
      have H1 := Lib.hid h
      have H3 := Lib.hid h3
      have hne := h.at_.ne
      clear h h2 h3
      go_enter Tryd.func17, Tryd.ntmps17
      go_wp2_with fail
      refine HI.out.mono ?_
      rintro e w1 ⟨rfl, rfl⟩
      go_wp2
      go_ret
      exact ⟨rfl, H1.out.step H3.out (((Keeps.of_below (Below.refl _ _)).put _ _).put _ _), ((Keeps.of_below (Below.refl _ _)).put _ _).put _ _⟩

theorem atB_or (xs : List Slot) (s n : Int) : atB xs s n [1, 3] = (atB xs s n [1] || atB xs s n [3]) := by
  unfold atB
  cases xs[s.toNat]? with
  | none => simp
  | some x => simp only [List.contains_cons, List.contains_nil, Bool.or_false]; cases decide (0 ≤ s) <;> cases (x.gen == n) <;> simp
set_option maxHeartbeats 1000000 in
theorem rfree_do {w wi : World} {g gs : Nat} {xs : List Slot} (h : Mine 46 w g gs xs wi) (s n : Int) :
    Calls Tryd.prog 19 #[.pointer (some ⟨g, 0, none⟩), .int .i64 s, .int .i64 n] wi (Done 46 w g gs (freeF xs s n).1 (freeF xs s n).2 wi) := by
  unfold freeF
  have HI := Lib.hid (is_any g gs xs s n 1 wi h.at_)
  have HJ := Lib.hid (is_any g gs xs s n 3 wi h.at_)
  have hh := h.at_.head
  cases hb : atB xs s n [1, 3] with
  | false =>
    have hb1 := hb
    rw [atB_or, Bool.or_eq_false_iff] at hb1
    rw [hb1.1] at HI
    rw [hb1.2] at HJ
    clear hb hb1
    simp only [Bool.false_eq_true, if_false]
    go_enter Tryd.func19, Tryd.ntmps19
    go_wp2_with fail
    refine HI.out.mono ?_
    rintro e w1 ⟨rfl, rfl⟩
    go_wp2_with fail
    refine HJ.out.mono ?_
    rintro e w1 ⟨rfl, rfl⟩
    go_wp2
    go_ret
    exact ⟨rfl, h, Keeps.of_below (Below.refl _ _)⟩
  | true =>
    have hb1 := hb
    rw [atB_or] at hb1
    obtain ⟨k, hk, rfl, _, _⟩ := atB_yes hb
    rw [if_pos rfl, Int.toNat_natCast]
    clear hb
    obtain ⟨c0, c1, c2, c3⟩ := h.at_.cell hk
    have f0 := h.at_.free (k * 4)
    have f1 := h.at_.free (k * 4 + 1)
    have f2 := h.at_.free (k * 4 + 2)
    have f3 := h.at_.free (k * 4 + 3)
    have H1 := Lib.hid h
    have K1 := Lib.hid (((((Keeps.of_below (gs := gs) (Below.refl _ wi)).put (k * 4) (.int .i64 n)).put (k * 4 + 1) (.int .i64 0)).put (k * 4 + 2) (.int .i64 0)).put (k * 4 + 3) (.int .i64 0))
    have H4 := Lib.hid (h.at_.put4 hk ⟨n, 0, 0, 0⟩)
    clear h
    cases h1 : atB xs (k : Int) n [1] with
    | true =>
      rw [h1] at HI
      clear h1 hb1
      go_enter Tryd.func19, Tryd.ntmps19
      go_wp2_with fail
      refine HI.out.mono ?_
      rintro e w1 ⟨rfl, rfl⟩
      go_wp2
      go_ret
      exact ⟨rfl, H1.out.step H4.out K1.out, K1.out⟩
    | false =>
      rw [h1, Bool.false_or] at hb1
      rw [h1] at HI
      rw [hb1] at HJ
      clear h1 hb1
      go_enter Tryd.func19, Tryd.ntmps19
      go_wp2_with fail
      refine HI.out.mono ?_
      rintro e w1 ⟨rfl, rfl⟩
      go_wp2_with fail
      refine HJ.out.mono ?_
      rintro e w1 ⟨rfl, rfl⟩
      go_wp2
      go_ret
      exact ⟨rfl, H1.out.step H4.out K1.out, K1.out⟩

set_option maxHeartbeats 1000000 in
theorem rtake_do {w wi : World} {g gs : Nat} {xs : List Slot} (hM : Mine 46 w g gs xs wi) (f : Int) :
    Calls Tryd.prog 13 #[.pointer (some ⟨g, 0, none⟩), .int .i64 f] wi (Took 46 w g gs (takeF xs f) wi) := by
  by_cases hf : f < 0 ∨ 8 ≤ f
  · have e : takeF xs f = (xs, (0, 0, 2300)) := by unfold takeF; rw [if_pos hf]
    rw [e]
    clear e
    by_cases h0 : f < 0
    · have h0' : decide (f < 0) = true := by simpa using h0
      go_enter Tryd.func13, Tryd.ntmps13
      go_wp2
      go_ret3
      exact ⟨rfl, hM, Keeps.of_below (Below.refl _ _)⟩
    · have h0' : decide (f < 0) = false := by simpa using h0
      have h1' : decide (8 ≤ f) = true := by simp; omega
      go_enter Tryd.func13, Tryd.ntmps13
      go_wp2
      go_ret3
      exact ⟨rfl, hM, Keeps.of_below (Below.refl _ _)⟩
  · have h0 : decide (f < 0) = false := by simp; omega
    have h8 : decide (8 ≤ f) = false := by simp; omega
    have hh := hM.at_.head
    have hle := hM.at_.le
    have HM := Lib.hid hM
    have HF := Lib.hid hf
    clear hM hf
    go_enter Tryd.func13, Tryd.ntmps13
    go_wp2
    go_loop [7] (fun i => ∃ k : Nat, k ≤ xs.length ∧ i = .int .i64 k ∧ (∀ j (hj : j < xs.length), j < k → (xs[j].state == 0) = false)) (fun i => xs.length - (intOf i).toNat)
    case atStart => exact ⟨0, Nat.zero_le _, rfl, fun _ _ h => absurd h (Nat.not_lt_zero _)⟩
    case round =>
      obtain ⟨k, hk, rfl, hv⟩ := hrel
      have HV := Lib.hid hv
      clear hv
      by_cases hlt : k < xs.length
      · obtain ⟨c0, c1, c2, c3⟩ := HM.out.at_.cell hlt
        by_cases hs : (xs[k].state == 0) = true
        · have e : takeF xs f = (xs.set k ⟨wrap64 (xs[k].gen + 1), 1, f, 0⟩, ((k : Int), wrap64 (xs[k].gen + 1), (0 : Int))) := by
            unfold takeF; rw [if_neg HF.out, free_some xs k hlt HV.out hs]; simp only [slotAt_in hlt]
          have f0 := HM.out.at_.free (k * 4)
          have f1 := HM.out.at_.free (k * 4 + 1)
          have f2 := HM.out.at_.free (k * 4 + 2)
          have f3 := HM.out.at_.free (k * 4 + 3)
          have E := Lib.hid e
          clear e
          have h2 := (HM.out.at_.put4 hlt ⟨wrap64 (xs[k].gen + 1), 1, f, 0⟩).drew
          have hh2 := h2.head
          have d0 := (h2.cell (k := k) (by simpa using hlt)).1
          rw [List.length_set] at hh2
          rw [List.getElem_set_self] at d0
          have H2 := Lib.hid h2
          have K2 := Lib.hid (((((Keeps.of_below (gs := gs) (Below.refl _ wi)).put (k * 4) (.int .i64 (wrap64 (xs[k].gen + 1)))).put (k * 4 + 1) (.int .i64 1)).put (k * 4 + 2) (.int .i64 f)).put (k * 4 + 3) (.int .i64 0)).drew
          clear h2
          go_wp2
          go_region
          go_wp2
          go_region
          go_wp2
          go_ret3
          exact ⟨by rw [E.out]; rfl, by rw [E.out]; exact HM.out.step H2.out.drew K2.out.drew, K2.out.drew⟩
        · have hs' : (xs[k].state == 0) = false := by simpa using hs
          go_wp2
          go_round
          case rel => exact ⟨k + 1, by omega, by go_num, not_upto HV.out hlt hs'⟩
          case measure => simp [intOf]; omega
      · have e : takeF xs f = (xs, (0, 0, 2301)) := by
          unfold takeF; rw [if_neg HF.out, free_none xs k (by omega) HV.out]
        have E := Lib.hid e
        clear e
        go_wp2
        go_ret3
        exact ⟨by rw [E.out]; rfl, by rw [E.out]; exact HM.out, Keeps.of_below (Below.refl _ _)⟩

set_option maxHeartbeats 1000000 in
/-- A row of the call's own is written over: nothing but its block turns. -/
theorem spoil_do (g cap : Nat) (xs : List Slot) (w : World) (base : Nat) (h : OwnS w base g cap xs) (hn : xs.length ≤ 8) :
    Calls Tryd.prog 22 #[.slice (some ⟨g, 0, none⟩) xs.length cap] w fun e w' => e = .returned (.tuple #[]) ∧ Keeps g w w' := by
  have HO := Lib.hid h
  clear h
  go_enter Tryd.func22, Tryd.ntmps22
  go_wp2
  go_loopw [2] (fun i wr => ∃ k : Nat, k ≤ xs.length ∧ i = .int .i64 k ∧ (∃ ys : List Slot, ys.length = xs.length ∧ OwnS wr base g cap ys) ∧ Keeps g w wr) (fun i _ => xs.length - (intOf i).toNat)
  case atStart => exact ⟨0, Nat.zero_le _, rfl, ⟨xs, rfl, HO.out⟩, Keeps.of_below (Below.refl _ _)⟩
  case round =>
    obtain ⟨k, hk, rfl, ⟨ys, hy, hO⟩, hK⟩ := hrel
    have HK := Lib.hid hK
    have HY := Lib.hid hy
    have HO1 := Lib.hid hO
    clear hK hO hy
    by_cases hlt : k < xs.length
    · have hly : k < ys.length := by have := HY.out; omega
      obtain ⟨b, hb, c0, c1, c2, c3⟩ := (HO1.out.reads (by have := HY.out; omega)).at_ hly
      cases hb
      have f0 := HO1.out.own.frozenAt (k * 4)
      have hO2 := HO1.out.own.stored (k * 4) (.int .i64 (bits .xor .i64 ys[k].gen 90))
      rw [show k * 4 = k * 4 + 0 from rfl, sFlat_set ys k 0 hly (by omega) _ { ys[k] with gen := bits .xor .i64 ys[k].gen 90 } rfl] at hO2
      have HO2 := Lib.hid hO2
      clear hO2
      go_wp2
      go_roundw
      case rel => exact ⟨k + 1, by omega, by go_num, ⟨ys.set k { ys[k] with gen := bits .xor .i64 ys[k].gen 90 }, by rw [List.length_set]; exact HY.out, ⟨by rw [List.length_set]; exact HO2.out.1⟩⟩, HK.out.put _ _⟩
      case measure => simp [intOf]; omega
    · go_wp2
      go_end0
      exact ⟨rfl, HK.out⟩
end Go.Proofs.YtjjnccllamgbaaaDoor
