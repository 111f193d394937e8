/- The arena's Take: the first slot that is free is taken. Conditions: the arena lies in memory as its slots say. -/
import Derived.Test.YtjjnccllamgbaaaDoorActs
import Derived.StillTailTactics
import Derived.RegionTactic
import Derived.BigRegion
namespace Go.Proofs.YtjjnccllamgbaaaDoor
open Go.RowKit

/-- Slots as a row in memory. -/
def ReadsS (w : World) (A : Option Addr) (xs : List Slot) : Prop :=
  xs.length ≤ 9223372036854775807 ∧ (0 < xs.length → ∃ b, A = some ⟨b, 0, none⟩ ∧ ∀ k (h : k < xs.length), w.cell? ⟨b, k * 4, none⟩ = some (.int .i64 xs[k].gen) ∧ w.cell? ⟨b, k * 4 + 1, none⟩ = some (.int .i64 xs[k].state) ∧ w.cell? ⟨b, k * 4 + 2, none⟩ = some (.int .i64 xs[k].fn) ∧ w.cell? ⟨b, k * 4 + 3, none⟩ = some (.int .i64 xs[k].stamp))
theorem ReadsS.at_ {w : World} {A : Option Addr} {xs : List Slot} (h : ReadsS w A xs) {k : Nat} (hk : k < xs.length) : ∃ b, A = some ⟨b, 0, none⟩ ∧ w.cell? ⟨b, k * 4, none⟩ = some (.int .i64 xs[k].gen) ∧ w.cell? ⟨b, k * 4 + 1, none⟩ = some (.int .i64 xs[k].state) ∧ w.cell? ⟨b, k * 4 + 2, none⟩ = some (.int .i64 xs[k].fn) ∧ w.cell? ⟨b, k * 4 + 3, none⟩ = some (.int .i64 xs[k].stamp) := by
  obtain ⟨b, e, hc⟩ := h.2 (by omega)
  exact ⟨b, e, hc k hk⟩
theorem ReadsS.below {w w1 : World} {A : Option Addr} {xs : List Slot} (h : ReadsS w A xs) (hb : Below w.heap.size w w1) : ReadsS w1 A xs :=
  ⟨h.1, fun hn => by
    obtain ⟨b, e, hc⟩ := h.2 hn
    exact ⟨b, e, fun k hk => by
      obtain ⟨c0, c1, c2, c3⟩ := hc k hk
      exact ⟨(hb.cell (World.block_lt_of_cell? w _ c0)).trans c0, (hb.cell (World.block_lt_of_cell? w _ c1)).trans c1, (hb.cell (World.block_lt_of_cell? w _ c2)).trans c2, (hb.cell (World.block_lt_of_cell? w _ c3)).trans c3⟩⟩⟩
theorem ArenaAt.reads {T g gs : Nat} {w : World} {xs : List Slot} (h : ArenaAt T w g gs xs) : ReadsS w (some ⟨gs, 0, none⟩) xs :=
  ⟨by have := h.le; omega, fun _ => ⟨gs, rfl, fun _ hk => h.cell hk⟩⟩

def firstFree (xs : List Slot) : Option Nat := xs.findIdx? (fun s => s.state == 0)
theorem free_none (xs : List Slot) (k : Nat) (hk : xs.length ≤ k) (h : ∀ j (hj : j < xs.length), j < k → (xs[j].state == 0) = false) : firstFree xs = none := by
  unfold firstFree
  rw [List.findIdx?_eq_none_iff]
  intro x hx
  obtain ⟨j, hj, rfl⟩ := List.getElem_of_mem hx
  exact h j hj (by omega)
theorem free_some (xs : List Slot) (k : Nat) (hk : k < xs.length) (h : ∀ j (hj : j < xs.length), j < k → (xs[j].state == 0) = false) (he : (xs[k].state == 0) = true) : firstFree xs = some k := by
  unfold firstFree
  rw [List.findIdx?_eq_some_iff_getElem]
  exact ⟨hk, he, fun j hj => by rw [h j (by omega) hj]; simp⟩
def idxOf (xs : List Slot) : Int := match firstFree xs with | some k => k | none => -1

theorem idxOf_none {xs : List Slot} (k : Nat) (hk : xs.length ≤ k) (h : ∀ j (hj : j < xs.length), j < k → (xs[j].state == 0) = false) : idxOf xs = -1 := by unfold idxOf; rw [free_none xs k hk h]
theorem idxOf_some {xs : List Slot} (k : Nat) (hk : k < xs.length) (h : ∀ j (hj : j < xs.length), j < k → (xs[j].state == 0) = false) (he : (xs[k].state == 0) = true) : idxOf xs = k := by unfold idxOf; rw [free_some xs k hk h he]
theorem not_upto {xs : List Slot} {k : Nat} (h : ∀ j (hj : j < xs.length), j < k → (xs[j].state == 0) = false) (hk : k < xs.length) (he : (xs[k].state == 0) = false) : ∀ j (hj : j < xs.length), j < k + 1 → (xs[j].state == 0) = false := fun j hj h1 => by
  rcases Nat.lt_or_ge j k with h2 | h2
  · exact h j hj h2
  · obtain rfl : j = k := by omega
    exact he

def IxPost (r : Int) (w : World) (e : Ending) (w' : World) : Prop := e = .returned (.int .i64 r) ∧ Below w.heap.size w w'
set_option maxHeartbeats 1000000 in
theorem indexFunc_any (A : Option Addr) (c : Nat) (xs : List Slot) (w : World) (hr : ReadsS w A xs) :
    Calls Tryd.prog 23 #[.slice A xs.length c, .func (.func 24) #[] #[]] w (IxPost (idxOf xs) w) := by
  have HR := Lib.hid hr
  have hn : xs.length ≤ 9223372036854775807 := hr.1
  clear hr
  go_enter Tryd.func23, Tryd.ntmps23
  go_wp2
  go_loopw [5, 8] (fun _ i wr => ∃ k : Nat, k ≤ xs.length ∧ i = .int .i64 k ∧ (∀ j (hj : j < xs.length), j < k → (xs[j].state == 0) = false) ∧ Below w.heap.size w wr) (fun _ i _ => xs.length - (intOf i).toNat)
  case atStart => exact ⟨0, Nat.zero_le _, rfl, fun _ _ h => absurd h (Nat.not_lt_zero _), Below.refl _ _⟩
  case round =>
    obtain ⟨k, hk, rfl, hv, hB⟩ := hrel
    have HV := Lib.hid hv
    have HB := Lib.hid hB
    clear hv
    by_cases hlt : k < xs.length
    · obtain ⟨b, rfl, c0, c1, c2, c3⟩ := (HR.out.below hB).at_ hlt
      have H1 := Lib.hid (below_alloc hB (.cells #[.int .i64 xs[k].gen, .int .i64 xs[k].state, .int .i64 xs[k].fn, .int .i64 xs[k].stamp] 56))
      clear hB
      go_wp2
      · have he : (xs[k].state == 0) = true := by assumption
        go_ret
        exact ⟨by rw [idxOf_some k hlt HV.out he]; rfl, H1.out⟩
      · have he : (xs[k].state == 0) = false := by assumption
        go_roundw
        case rel => exact ⟨k + 1, by omega, by go_num, not_upto HV.out hlt he, H1.out⟩
        case measure => simp [intOf]; omega
    · clear hB
      go_wp2
      go_ret
      exact ⟨by rw [idxOf_none k (by omega) HV.out]; rfl, HB.out⟩

theorem take_fn (g : Nat) (f : Int) (w : World) (hf : f < 0 ∨ 8 ≤ f) :
    Calls Tryd.prog 12 #[.pointer (some ⟨g, 0, none⟩), .int .i64 f] w fun e w' => e = .returned (.tuple #[.int .i64 0, .int .i64 0, .int .i64 2300]) ∧ w = w' := by
  by_cases h0 : f < 0
  · have h0' : decide (f < 0) = true := by simpa using h0
    go_enter Tryd.func12, Tryd.ntmps12
    go_wp2
    go_ret3
    exact ⟨rfl, rfl⟩
  · have h0' : decide (f < 0) = false := by simpa using h0
    have h1' : decide (8 ≤ f) = true := by simp; omega
    go_enter Tryd.func12, Tryd.ntmps12
    go_wp2
    go_ret3
    exact ⟨rfl, rfl⟩
theorem take_nil (f : Int) (w : World) :
    Calls Tryd.prog 12 #[.pointer none, .int .i64 f] w fun e w' => e = .returned (.tuple #[.int .i64 0, .int .i64 0, .int .i64 1]) ∧ w = w' := by
  go_enter Tryd.func12, Tryd.ntmps12
  go_wp2
  go_ret3
  exact ⟨rfl, rfl⟩
theorem take_full (g gs : Nat) (xs : List Slot) (f : Int) (w : World) (h : ArenaAt 58 w g gs xs) (hf0 : decide (f < 0) = false) (hf1 : decide (8 ≤ f) = false) (hn : firstFree xs = none) :
    Calls Tryd.prog 12 #[.pointer (some ⟨g, 0, none⟩), .int .i64 f] w fun e w' => e = .returned (.tuple #[.int .i64 0, .int .i64 0, .int .i64 2301]) ∧ Below w.heap.size w w' := by
  have hh := h.head
  have hi : idxOf xs = -1 := by unfold idxOf; rw [hn]
  have HI := Lib.hid (indexFunc_any _ xs.length xs w h.reads)
  rw [hi] at HI
  clear h hi hn
  go_enter Tryd.func12, Tryd.ntmps12
  go_wp2_with fail
  refine HI.out.mono ?_
  rintro e w1 ⟨rfl, hB⟩
  have HB := Lib.hid hB
  clear hB
  go_wp2
  go_ret3
  exact ⟨rfl, HB.out⟩
set_option maxHeartbeats 1000000 in
theorem take_yes (g gs : Nat) (xs : List Slot) (f : Int) (k : Nat) (w : World) (h : ArenaAt 58 w g gs xs) (hf0 : decide (f < 0) = false) (hf1 : decide (8 ≤ f) = false) (hk : k < xs.length) (hn : firstFree xs = some k) :
    Calls Tryd.prog 12 #[.pointer (some ⟨g, 0, none⟩), .int .i64 f] w fun e w' => e = .returned (.tuple #[.int .i64 k, .int .i64 (wrap64 (xs[k].gen + 1)), .int .i64 0]) ∧ ArenaAt 58 w' g gs (xs.set k ⟨wrap64 (xs[k].gen + 1), 1, f, 0⟩) ∧ Keeps gs w w' := by
  have hh := h.head
  have hi : idxOf xs = k := by unfold idxOf; rw [hn]
  have HI := Lib.hid (indexFunc_any _ xs.length xs w h.reads)
  rw [hi] at HI
  clear hi hn
  go_enter Tryd.func12, Tryd.ntmps12
  go_wp2_with fail
  refine HI.out.mono ?_
  rintro e w1 ⟨rfl, hB⟩
  have h1 := h.below hB
  have hh1 := h1.head
  obtain ⟨c0, c1, c2, c3⟩ := h1.cell hk
  have f0 := h1.free (k * 4)
  have f1 := h1.free (k * 4 + 1)
  have f2 := h1.free (k * 4 + 2)
  have f3 := h1.free (k * 4 + 3)
  have H1 := Lib.hid h1
  have K1 := Lib.hid (Keeps.of_below (gs := gs) hB)
  clear hB h1 h hh
  have h2 := (H1.out.put4 hk ⟨wrap64 (xs[k].gen + 1), 1, f, 0⟩).drew
  have hh2 := h2.head
  have d0 := (h2.cell (k := k) (by simpa using hk)).1
  rw [List.length_set] at hh2
  rw [List.getElem_set_self] at d0
  have H2 := Lib.hid h2
  have K2 := Lib.hid ((((K1.out.put (k * 4) (.int .i64 (wrap64 (xs[k].gen + 1)))).put (k * 4 + 1) (.int .i64 1)).put (k * 4 + 2) (.int .i64 f)).put (k * 4 + 3) (.int .i64 0)).drew
  clear h2
  go_wp2
  go_region
  go_wp2
  go_region
  go_wp2
  go_ret3
  exact ⟨rfl, H2.out.drew, K2.out.drew⟩
end Go.Proofs.YtjjnccllamgbaaaDoor
