/- What an arena's acts come to, as plain functions of its slots; each of the program's methods answers so. Conditions: the arena lies in memory as its slots say; errors.errorType holds the handle of 'error'. -/
import Derived.Test.YtjjnccllamgbaaaDoorSlots
namespace Go.Proofs.YtjjnccllamgbaaaDoor
open Go.RowKit

def slotAt (xs : List Slot) (s : Int) : Slot := xs[s.toNat]?.getD zSlot
theorem slotAt_in {xs : List Slot} {k : Nat} (hk : k < xs.length) : slotAt xs (k : Int) = xs[k] := by
  unfold slotAt; rw [Int.toNat_natCast, List.getElem?_eq_getElem hk]; rfl
def pubF (xs : List Slot) (s n : Int) : List Slot × Int :=
  if atB xs s n [1] then (xs.set s.toNat { slotAt xs s with state := 2 }, 0) else (xs, 2300)
def retF (xs : List Slot) (s n q : Int) : List Slot × Int :=
  if atB xs s n [2] && decide (0 ≤ q) then (xs.set s.toNat { slotAt xs s with state := 3, stamp := q }, 0) else (xs, 2300)
def freeF (xs : List Slot) (s n : Int) : List Slot × Int :=
  if atB xs s n [1, 3] then (xs.set s.toNat ⟨n, 0, 0, 0⟩, 0) else (xs, 2300)
def takeF (xs : List Slot) (f : Int) : List Slot × (Int × Int × Int) :=
  if f < 0 ∨ 8 ≤ f then (xs, (0, 0, 2300)) else
  match firstFree xs with
  | none => (xs, (0, 0, 2301))
  | some k => (xs.set k ⟨wrap64 ((slotAt xs k).gen + 1), 1, f, 0⟩, (k, wrap64 ((slotAt xs k).gen + 1), 0))

theorem firstFree_lt {xs : List Slot} {k : Nat} (h : firstFree xs = some k) : k < xs.length := by
  unfold firstFree at h
  rw [List.findIdx?_eq_some_iff_getElem] at h
  exact h.1

/-- An arena of the call's own, which began at w. -/
structure Mine (T : Nat) (w : World) (g gs : Nat) (xs : List Slot) (wi : World) : Prop where
  at_ : ArenaAt T wi g gs xs
  lo : w.heap.size ≤ gs
  B : Below w.heap.size w wi
theorem ArenaAt.keeps {T g gs gs' : Nat} {w w1 : World} {xs : List Slot} (h : ArenaAt T w g gs xs) (hk : Keeps gs' w w1) (h1 : g ≠ gs') (h2 : gs ≠ gs') : ArenaAt T w1 g gs xs :=
  ⟨(hk.block g (blk_lt h.a) (by simpa using h1)).trans h.a, (hk.block gs (blk_lt h.s) (by simpa using h2)).trans h.s, h.ne, h.le⟩
theorem below_keeps {w w1 w2 : World} {gs : Nat} (h : Below w.heap.size w w1) (hk : Keeps gs w1 w2) (hl : w.heap.size ≤ gs) : Below w.heap.size w w2 :=
  h.grown hk h.size (fun k e => by cases e; exact hl)
theorem Mine.step {T g gs : Nat} {w wi w' : World} {xs ys : List Slot} (h : Mine T w g gs xs wi) (ha : ArenaAt T w' g gs ys) (hk : Keeps gs wi w') : Mine T w g gs ys w' := ⟨ha, h.lo, below_keeps h.B hk h.lo⟩
theorem Mine.below {T g gs : Nat} {w wi w' : World} {xs : List Slot} (h : Mine T w g gs xs wi) (hb : Below wi.heap.size wi w') : Mine T w g gs xs w' := ⟨h.at_.below hb, h.lo, below_trans h.B hb⟩
/-- What an act answers and leaves. -/
def Done (T : Nat) (w : World) (g gs : Nat) (xs : List Slot) (r : Int) (wi : World) (e : Ending) (w' : World) : Prop := e = .returned (.int .i64 r) ∧ Mine T w g gs xs w' ∧ Keeps gs wi w'
theorem Done.of {T g gs : Nat} {w wi : World} {xs ys : List Slot} {r : Int} (h : Mine T w g gs xs wi) {e : Ending} {w' : World} (hd : Did T g gs ys r wi e w') : Done T w g gs ys r wi e w' := ⟨hd.1, h.step hd.2.1 hd.2.2, hd.2.2⟩
theorem atB_of {xs : List Slot} {k : Nat} {n : Int} {st : List Int} (h : atB xs (k : Int) n st = true) : ∃ hk : k < xs.length, xs[k].gen = n ∧ xs[k].state ∈ st := by
  obtain ⟨j, hj, e, h1, h2⟩ := atB_yes h
  obtain rfl : j = k := by omega
  exact ⟨hj, h1, h2⟩

theorem publish_do {w wi : World} {g gs : Nat} {xs : List Slot} (hG : Glob w) (h : Mine 58 w g gs xs wi) (s n : Int) :
    Calls Tryd.prog 14 #[.pointer (some ⟨g, 0, none⟩), .int .i64 s, .int .i64 n] wi (Done 58 w g gs (pubF xs s n).1 (pubF xs s n).2 wi) := by
  unfold pubF
  cases hb : atB xs s n [1] with
  | false => exact (publish_no g gs xs s n wi (hG.below h.B) h.at_ hb).mono fun e w' hd => Done.of h hd
  | true =>
    obtain ⟨k, hk, rfl, h1, h2⟩ := atB_yes hb
    refine (publish_yes g gs xs k n wi h.at_ hk h1 h2).mono fun e w' hd => ?_
    rw [if_pos rfl, Int.toNat_natCast, slotAt_in hk]
    exact Done.of h hd

set_option maxHeartbeats 1000000 in
theorem retire_neg (g gs : Nat) (xs : List Slot) (k : Nat) (n q : Int) (w : World) (h : ArenaAt 58 w g gs xs) (hk : k < xs.length) (hg : xs[k].gen = n) (hs : xs[k].state ∈ ([2] : List Int)) (hq : decide (q < 0) = true) :
    Calls Tryd.prog 16 #[.pointer (some ⟨g, 0, none⟩), .int .i64 k, .int .i64 n, .int .i64 q] w (Did 58 g gs xs 2300 w) := by
  have b1 : Below w.heap.size w (w.alloc (.cells #[.int .i64 2] 3)) := below_alloc (Below.refl _ _) _
  have h1 := h.below b1
  have HS := Lib.hid (slot_yes g gs xs k n (some ⟨w.heap.size, 0, none⟩) 1 [2] _ h1 hk hg (reads_lit1 w 2 3) hs)
  have H1 := Lib.hid h1
  have K1 := Lib.hid (Keeps.of_below (gs := gs) b1)
  clear b1 h1 h hg hs
  go_enter Tryd.func16, Tryd.ntmps16
  go_wp2_with fail
  refine HS.out.mono ?_
  rintro e w1 ⟨rfl, rfl⟩
  go_wp2
  go_ret
  exact ⟨rfl, H1.out, K1.out⟩
theorem retire_do {w wi : World} {g gs : Nat} {xs : List Slot} (hG : Glob w) (h : Mine 58 w g gs xs wi) (s n q : Int) :
    Calls Tryd.prog 16 #[.pointer (some ⟨g, 0, none⟩), .int .i64 s, .int .i64 n, .int .i64 q] wi (Done 58 w g gs (retF xs s n q).1 (retF xs s n q).2 wi) := by
  unfold retF
  cases hb : atB xs s n [2] with
  | false => exact (retire_no g gs xs s n q wi (hG.below h.B) h.at_ hb).mono fun e w' hd => Done.of h hd
  | true =>
    obtain ⟨k, hk, rfl, h1, h2⟩ := atB_yes hb
    by_cases hq : q < 0
    · refine (retire_neg g gs xs k n q wi h.at_ hk h1 h2 (by simpa using hq)).mono fun e w' hd => ?_
      rw [if_neg (by simp; omega)]
      exact Done.of h hd
    · refine (retire_yes g gs xs k n q wi h.at_ hk h1 h2 (by simpa using hq)).mono fun e w' hd => ?_
      rw [if_pos (by simp; omega), Int.toNat_natCast, slotAt_in hk]
      exact Done.of h hd
theorem free_do {w wi : World} {g gs : Nat} {xs : List Slot} (hG : Glob w) (h : Mine 58 w g gs xs wi) (s n : Int) :
    Calls Tryd.prog 18 #[.pointer (some ⟨g, 0, none⟩), .int .i64 s, .int .i64 n] wi (Done 58 w g gs (freeF xs s n).1 (freeF xs s n).2 wi) := by
  unfold freeF
  cases hb : atB xs s n [1, 3] with
  | false => exact (free_no g gs xs s n wi (hG.below h.B) h.at_ hb).mono fun e w' hd => Done.of h hd
  | true =>
    obtain ⟨k, hk, rfl, h1, h2⟩ := atB_yes hb
    refine (free_yes g gs xs k n wi h.at_ hk h1 h2).mono fun e w' hd => ?_
    rw [if_pos rfl, Int.toNat_natCast]
    exact Done.of h hd
/-- What a Take answers and leaves. -/
def Took (T : Nat) (w : World) (g gs : Nat) (p : List Slot × (Int × Int × Int)) (wi : World) (e : Ending) (w' : World) : Prop := e = .returned (.tuple #[.int .i64 p.2.1, .int .i64 p.2.2.1, .int .i64 p.2.2.2]) ∧ Mine T w g gs p.1 w' ∧ Keeps gs wi w'
theorem take_do {w wi : World} {g gs : Nat} {xs : List Slot} (h : Mine 58 w g gs xs wi) (f : Int) :
    Calls Tryd.prog 12 #[.pointer (some ⟨g, 0, none⟩), .int .i64 f] wi (Took 58 w g gs (takeF xs f) wi) := by
  unfold takeF
  by_cases hf : f < 0 ∨ 8 ≤ f
  · rw [if_pos hf]
    exact (take_fn g f wi hf).mono fun e w' ⟨he, hw⟩ => by subst hw; exact ⟨he, h, Keeps.of_below (Below.refl _ _)⟩
  · rw [if_neg hf]
    have h0 : decide (f < 0) = false := by simp; omega
    have h8 : decide (8 ≤ f) = false := by simp; omega
    cases hn : firstFree xs with
    | none => exact (take_full g gs xs f wi h.at_ h0 h8 hn).mono fun e w' ⟨he, hb⟩ => ⟨he, h.below hb, Keeps.of_below hb⟩
    | some k =>
      have hk := firstFree_lt hn
      refine (take_yes g gs xs f k wi h.at_ h0 h8 hk hn).mono fun e w' ⟨he, ha, hb⟩ => ?_
      rw [← slotAt_in hk] at he ha
      exact ⟨he, h.step ha hb, hb⟩
theorem slots_do {w wi : World} {g gs : Nat} {xs : List Slot} (h : Mine 58 w g gs xs wi) (h1 : 1 ≤ xs.length) :
    Calls Tryd.prog 20 #[.pointer (some ⟨g, 0, none⟩)] wi (Handed xs wi) := slots_any g gs xs wi h.at_ h1
end Go.Proofs.YtjjnccllamgbaaaDoor
